/-
  The calendar: the walks of open, days, nth.
-/
import Derived.Test.YtainmmdlbajpnaaClB
namespace Go.Proofs.Ytainmmdlbajpnaa.Sc
open Go.RowKit Go.Shelf Go.Proofs.Ytainmmdlbajpnaa Go.Proofs.Ytainmmdlbajpnaa.Ls Go.Proofs.Ytainmmdlbajpnaa.Kb
open Go.Proofs.Ytainmmdlbajpnaa.Dt hiding ret_bool ret_int
attribute [local go_sem] Oper.semAt_some

theorem open_any (wk : Int) (s : Value) (w : World) (hs : ∃ a n c, s = .slice a n c) :
    Calls Try.prog 65 #[.agg #[.int .u8 wk, s]] w fun e w' => e = .returned (.func (.func 69) #[] #[.pointer (some ⟨w.heap.size, 0, none⟩)]) ∧ w' = w.alloc (.cells #[.int .u8 wk, s] 24) := by
  obtain ⟨a, n, c, rfl⟩ := hs
  go_enter Try.func65, Try.ntmps65
  go_wp2
  go_ret
  exact ⟨rfl, rfl⟩

theorem blk_fiveB (w : World) (a b c d e : Obj) : ((((((w.alloc a).alloc b).alloc c).alloc d).alloc e).heap[w.heap.size]? = some a ∧ (((((w.alloc a).alloc b).alloc c).alloc d).alloc e).heap[w.heap.size + 1]? = some b ∧
    (((((w.alloc a).alloc b).alloc c).alloc d).alloc e).heap[w.heap.size + 1 + 1]? = some c ∧ (((((w.alloc a).alloc b).alloc c).alloc d).alloc e).heap[w.heap.size + 1 + 1 + 1]? = some d ∧
    (((((w.alloc a).alloc b).alloc c).alloc d).alloc e).heap[w.heap.size + 1 + 1 + 1 + 1]? = some e) ∧ Below w.heap.size w (((((w.alloc a).alloc b).alloc c).alloc d).alloc e) := by
  refine ⟨?_, ((((((Below.refl _ _).alloc (Nat.le_refl _) _).alloc (by simp) _).alloc (by simp; omega) _).alloc (by simp; omega) _).alloc (by simp; omega) _)⟩
  have e1 : ∀ (w : World) (o : Obj), (w.alloc o).heap = w.heap.push o := fun _ _ => rfl
  simp only [e1, Array.getElem?_push, Array.size_push]
  refine ⟨?_, ?_, ?_, ?_, ?_⟩ <;> (repeat rw [if_neg (by omega)]) <;> simp

set_option maxRecDepth 100000 in
set_option maxHeartbeats 1000000 in
theorem days_any (wk : Int) (a : Option Addr) (n c : Nat) (d st : Int) (w : World) :
    Calls Try.prog 56 #[.agg #[.int .u8 wk, .slice a n c], .int .i64 d, .int .i64 st] w fun e w' => ∃ B0 B1 B2 B3 : Nat, e = .returned (.func (.func 66) #[] #[.pointer (some ⟨B1, 0, none⟩), .pointer (some ⟨B2, 0, none⟩), .pointer (some ⟨B3, 0, none⟩)]) ∧
      (w'.heap[B0]? = some (.cells #[.int .u8 wk, .slice a n c] 24 (0, 0)) ∧ w'.heap[B1]? = some (.cells #[.int .i64 d] 3 (0, 0)) ∧ w'.heap[B2]? = some (.cells #[.int .i64 st] 3 (0, 0)) ∧
        w'.heap[B3]? = some (.cells #[.func (.func 69) #[] #[.pointer (some ⟨B0, 0, none⟩)]] 66 (0, 0))) ∧
      (w.heap.size ≤ B0 ∧ w.heap.size ≤ B1 ∧ w.heap.size ≤ B2 ∧ w.heap.size ≤ B3) ∧ Below w.heap.size w w' := by
  go_enter Try.func56, Try.ntmps56
  go_wp2_with fail
  refine (open_any wk _ _ ⟨a, n, c, rfl⟩).mono ?_
  rintro e w1 ⟨rfl, rfl⟩
  go_wp2
  go_ret
  obtain ⟨⟨k0, k1, k2, k3, k4⟩, hb⟩ := blk_fiveB w (.cells #[.int .u8 wk, .slice a n c] 24) (.cells #[.int .i64 d] 3) (.cells #[.int .i64 st] 3) (.cells #[.int .u8 wk, .slice a n c] 24) (.cells #[.func (.func 69) #[] #[.pointer (some ⟨w.heap.size + 1 + 1 + 1, 0, none⟩)]] 66)
  refine ⟨w.heap.size + 1 + 1 + 1, w.heap.size + 1, w.heap.size + 1 + 1, w.heap.size + 1 + 1 + 1 + 1, ?_, ⟨?_, ?_, ?_, ?_⟩, ⟨by omega, by omega, by omega, by omega⟩, ?_⟩
  · simp
  · exact k3
  · exact k1
  · exact k2
  · simpa using k4
  · simpa using hb

/-- blocks that hold what they hold -/
def HoldB (os : List (Nat × Obj)) (w W : World) : Prop := (∀ p ∈ os, W.heap[p.1]? = some p.2) ∧ Below w.heap.size w W
theorem holdB_own {os : List (Nat × Obj)} {base : Nat} {w : World} (hos : ∀ p ∈ os, p.1 < base) (hw : w.heap.size ≤ base) {A B : World} {row : Option Nat} (h : HoldB os w A) (hg : A.grownBy B row) (hr : ∀ r, row = some r → base ≤ r ∧ ∃ o : Obj, A.heap[r]? = some o ∧ o.isCells = false) : HoldB os w B := by
  obtain ⟨h1, h4⟩ := h
  refine ⟨fun p hp => ?_, ?_⟩
  · rw [← h1 p hp]
    refine hg.block p.1 (blk_lt (h1 p hp)) (fun e => ?_)
    have := (hr p.1 e.symm).1
    have := hos p hp
    omega
  · exact h4.grown hg h4.size (fun r e => Nat.le_trans hw (hr r e).1)

theorem blk_fourB (w : World) (a b c d : Obj) : (((((w.alloc a).alloc b).alloc c).alloc d).heap[w.heap.size]? = some a ∧ ((((w.alloc a).alloc b).alloc c).alloc d).heap[w.heap.size + 1]? = some b ∧
    ((((w.alloc a).alloc b).alloc c).alloc d).heap[w.heap.size + 1 + 1]? = some c ∧ ((((w.alloc a).alloc b).alloc c).alloc d).heap[w.heap.size + 1 + 1 + 1]? = some d) ∧ Below w.heap.size w ((((w.alloc a).alloc b).alloc c).alloc d) ∧ ((((w.alloc a).alloc b).alloc c).alloc d).heap.size = w.heap.size + 4 := by
  refine ⟨?_, (((((Below.refl _ _).alloc (Nat.le_refl _) _).alloc (by simp) _).alloc (by simp; omega) _).alloc (by simp; omega) _), by simp [World.size_alloc]⟩
  have e1 : ∀ (w : World) (o : Obj), (w.alloc o).heap = w.heap.push o := fun _ _ => rfl
  simp only [e1, Array.getElem?_push, Array.size_push]
  refine ⟨?_, ?_, ?_, ?_⟩ <;> (repeat rw [if_neg (by omega)]) <;> simp

set_option maxRecDepth 100000 in
set_option maxHeartbeats 2000000 in
theorem nth_any (wk : Int) (a : Option Addr) (c : Nat) (hs : List Int) (d st r e0 : Int) (w : World) (hC : calOK wk hs = true) (hw : 0 ≤ wk) (hd : inD d) (hst : st = 1 ∨ st = -1) (hA : AtL w 1 ic a hs) (hN : NB wk hs d st r e0) :
    Calls Try.prog 42 #[.agg #[.int .u8 wk, .slice a hs.length c], .int .i64 d, .int .i64 st, .int .i64 1] w fun e w' => e = .returned (.tuple #[.int .i64 r, .int .i64 e0]) ∧ Below w.heap.size w w' := by
  obtain ⟨K, _, hK, hK2⟩ := out_exists d st hst
  have HNB := Lib.hid (nb_head hN hK hK2)
  have HK := Lib.hid (And.intro hK hK2)
  have HC := Lib.hid hC
  have HA := Lib.hid hA
  clear hK hK2 hN hC hA
  refine (callsIn_wide (n := 9)).1 ?_
  refine callsIn_of_wp_marks Try.func42 rfl trivial ?_ rfl
  simp only [Try.ntmps42, List.size_toArray, List.length_cons, List.length_nil, Nat.reduceAdd, Nat.reduceSub, Array.replicate_succ, Array.replicate_zero, List.push_toArray, List.append_toArray, List.nil_append, List.cons_append]
  gi_wp2_with fail
  obtain ⟨⟨k0, k1, k2, k3⟩, hbo, hsz⟩ := blk_fourB w (.cells #[.int .u8 wk, .slice a hs.length c] 24) (.cells #[.int .i64 1] 3) (.cells #[.int .i64 0] 3) (.cells #[.int .i64 0] 29)
  generalize (((w.alloc _).alloc _).alloc _).alloc _ = w5 at k0 k1 k2 k3 hbo hsz ⊢
  refine ⟨trivial, callsIn_wide.2 ((days_any wk a hs.length c d st w5).mono ?_)⟩
  rintro e w1 ⟨B0, B1, B2, B3, rfl, ⟨g0, g1, g2, g3⟩, ⟨l0, l1, l2, l3⟩, hb1⟩
  have HKB := Lib.hid (And.intro (blk_keep k1 hb1) (And.intro (blk_keep k2 hb1) (blk_keep k3 hb1)))
  have c1 := bt hbo hb1 (Nat.le_refl _)
  have HG := Lib.hid (And.intro g0 (And.intro g1 (And.intro g2 g3)))
  have hlb : ∀ b ∈ [B0, B1, B2, B3], b < w1.heap.size := fun b hb => by
    simp only [List.mem_cons, List.not_mem_nil, or_false] at hb
    rcases hb with rfl | rfl | rfl | rfl
    · exact blk_lt g0
    · exact blk_lt g1
    · exact blk_lt g2
    · exact blk_lt g3
  have HL := Lib.hid hlb
  have HS : Hid (w.heap.size + 4 ≤ w1.heap.size) := by
    have := hb1.size
    unfold Hid
    omega
  have HA1 := Lib.hid (HA.out.below c1)
  have HC1 := Lib.hid c1
  clear k0 k1 k2 k3 g0 g1 g2 g3 hb1 hbo hlb c1 l0 l1 l2 l3 hsz
  obtain ⟨b7, hb7⟩ : ∃ B, w.heap.size + 1 = B := ⟨_, rfl⟩
  obtain ⟨b8, hb8⟩ : ∃ B, w.heap.size + 1 + 1 = B := ⟨_, rfl⟩
  obtain ⟨b9, hb9⟩ : ∃ B, w.heap.size + 1 + 1 + 1 = B := ⟨_, rfl⟩
  rw [hb9, hb8, hb7] at HKB ⊢
  have HN : Hid (b7 = w.heap.size + 1 ∧ b8 = w.heap.size + 2 ∧ b9 = w.heap.size + 3) := by
    unfold Hid
    omega
  clear hb7 hb8 hb9
  have n78 : b7 ≠ b8 := by have := HN.out; omega
  have n79 : b7 ≠ b9 := by have := HN.out; omega
  have n89 : b8 ≠ b9 := by have := HN.out; omega
  have n87 : b8 ≠ b7 := by have := HN.out; omega
  have n97 : b9 ≠ b7 := by have := HN.out; omega
  have n98 : b9 ≠ b8 := by have := HN.out; omega
  gi_wp2
  refine wpIn_rangeFunc_ownG (F := Fence.wide) rfl (by omega) (gf := 66) (lb := #[.pointer (some ⟨B1, 0, none⟩), .pointer (some ⟨B2, 0, none⟩), .pointer (some ⟨B3, 0, none⟩)]) rfl trivial (enters_of Try.func66 (by kernel_rfl) rfl)
    (days_stops wk a c hs d st K B0 B1 B2 B3 8 w1 HC.out hw hd hst (by omega) HK.out.1 HK.out.2 HA1.out HG.out.1 HG.out.2.1 HG.out.2.2.1 HG.out.2.2.2) (fun h k => h.t k) (kpC_b HL.out) (Below.refl _ _) (fun _ => rfl)
    (fun pre W => pre = [] ∧ HoldB [(b7, .cells #[.int .i64 1] 3), (b8, .cells #[.int .i64 0] 3), (b9, .cells #[.int .i64 0] 29)] w W)
    (fun c' pre' W => c' = .ret ∧ ∃ x, pre' = [x] ∧ HoldB [(b8, .cells #[.int .i64 x] 3), (b9, .cells #[.int .i64 0] 29)] w W)
    (fun pre A B row h hg hr => ⟨h.1, holdB_own (by intro p hp; simp only [List.mem_cons, List.not_mem_nil, or_false] at hp; have := HN.out; have := HS.out; rcases hp with rfl | rfl | rfl <;> simp <;> omega) (by have := HS.out; omega) h.2 hg hr⟩)
    (fun c' pre A B row h hg hr => by
      obtain ⟨h1, x, h2, h3⟩ := h
      exact ⟨h1, x, h2, holdB_own (by intro p hp; simp only [List.mem_cons, List.not_mem_nil, or_false] at hp; have := HN.out; have := HS.out; rcases hp with rfl | rfl <;> simp <;> omega) (by have := HS.out; omega) h3 hg hr⟩)
    ⟨rfl, by
      intro p hp
      have := HKB.out
      simp only [List.mem_cons, List.not_mem_nil, or_false] at hp
      rcases hp with rfl | rfl | rfl
      · exact this.1
      · exact this.2.1
      · exact this.2.2, HC1.out⟩
    (fun x => { tmps := #[.agg #[.int .u8 wk, .slice a hs.length c], .int .i64 d, .int .i64 st, .int .i64 1, .pointer (some ⟨w.heap.size, 0, none⟩), undef, undef, .pointer (some ⟨b7, 0, none⟩), .pointer (some ⟨b8, 0, none⟩), .pointer (some ⟨b9, 0, none⟩), .int .i64 x,
      .agg #[.int .u8 wk, .slice a hs.length c], .int .i64 d, .int .i64 st, .func (.func 66) #[] #[.pointer (some ⟨B1, 0, none⟩), .pointer (some ⟨B2, 0, none⟩), .pointer (some ⟨B3, 0, none⟩)], .int .i64 x, undef, undef, undef, undef, undef], defers := [] }) ?assign ?body ?done ?stop
  case assign =>
    intro l x W K' hK'
    dsimp only [encD]
    gi_wp2
    exact hK'
  case body =>
    rintro l pre x W ⟨rfl, hos, hB⟩ hlt
    have h7 := hos (b7, _) (List.mem_cons_self ..)
    have h8 := hos (b8, _) (List.mem_cons_of_mem _ (List.mem_cons_self ..))
    have h9 := hos (b9, _) (List.mem_cons_of_mem _ (List.mem_cons_of_mem _ (List.mem_cons_self ..)))
    have y7 := cell_of h7 0 _ rfl
    have y8 := cell_of h8 0 _ rfl
    have y9 := cell_of h9 0 _ rfl
    have f7 := frozen_of h7 0
    have f8 := frozen_of h8 0
    have f9 := frozen_of h9 0
    have HO := Lib.hid (And.intro h7 (And.intro h8 h9))
    clear hos h7 h8 h9
    dsimp only at *
    gi_wp2
    have hn := HN.out
    refine ⟨(((KeepsOthers.setCell _ _ _).trans (KeepsOthers.setCell _ _ _)).trans (KeepsOthers.setCell _ _ _)).from _, rfl, x, rfl, fun p hp => ?_, ?_⟩
    · simp only [List.mem_cons, List.not_mem_nil, or_false] at hp
      rcases hp with rfl | rfl
      · exact far_set (set1 (far_set HO.out.2.1 n87 _) _) n89 _
      · exact set1 (far_set (far_set HO.out.2.2 n97 _) n98 _) _
    · exact ((hB.setCell (p := ⟨b7, 0, none⟩) (by show w.heap.size ≤ b7; omega) _).setCell (p := ⟨b8, 0, none⟩) (by show w.heap.size ≤ b8; omega) _).setCell (p := ⟨b9, 0, none⟩) (by show w.heap.size ≤ b9; omega) _
  case done =>
    rintro D ys W hD rfl ⟨hnil, hos, hB⟩ hK'
    obtain ⟨rfl, rfl⟩ := HNB.out.1 hnil
    have h8 := hos (b8, _) (List.mem_cons_of_mem _ (List.mem_cons_self ..))
    have h9 := hos (b9, _) (List.mem_cons_of_mem _ (List.mem_cons_of_mem _ (List.mem_cons_self ..)))
    have y8 := cell_of h8 0 _ rfl
    have y9 := cell_of h9 0 _ rfl
    have f8 := frozen_of h8 0
    have f9 := frozen_of h9 0
    have hn := HN.out
    have hs4 := HS.out
    have hK2 : ((W.setCell ⟨b8, 0, none⟩ (.int .i64 0)).setCell ⟨b9, 0, none⟩ (.int .i64 40)).heap[D]? = some (.deferred (some [])) := far_set (far_set hK' (by omega) _) (by omega) _
    have hW2 : Below w.heap.size w ((W.setCell ⟨b8, 0, none⟩ (.int .i64 0)).setCell ⟨b9, 0, none⟩ (.int .i64 40)) := (hB.setCell (p := ⟨b8, 0, none⟩) (by show w.heap.size ≤ b8; omega) _).setCell (p := ⟨b9, 0, none⟩) (by show w.heap.size ≤ b9; omega) _
    have q8 : ((W.setCell ⟨b8, 0, none⟩ (.int .i64 0)).setCell ⟨b9, 0, none⟩ (.int .i64 40)).heap[b8]? = some (.cells #[.int .i64 0] 3 (0, 0)) := far_set (set1 h8 _) n89 _
    have q9 : ((W.setCell ⟨b8, 0, none⟩ (.int .i64 0)).setCell ⟨b9, 0, none⟩ (.int .i64 40)).heap[b9]? = some (.cells #[.int .i64 40] 29 (0, 0)) := set1 (far_set h9 n98 _) _
    have HQ := Lib.hid (And.intro hK2 (And.intro hW2 (And.intro q8 q9)))
    clear hos hK2 hW2 q8 q9 hn hs4
    gi_wp2
    generalize (W.setCell _ _).setCell _ _ = W2 at HQ ⊢
    have y8 := cell_kept (cell_of HQ.out.2.2.1 0 _ rfl) (grownBy_putObj' W2 D (.deferred none)) (fun r e => by cases e; exact ⟨_, HQ.out.1, rfl⟩)
    have y9 := cell_kept (cell_of HQ.out.2.2.2 0 _ rfl) (grownBy_putObj' W2 D (.deferred none)) (fun r e => by cases e; exact ⟨_, HQ.out.1, rfl⟩)
    refine ⟨by simp, .inl ⟨_, _, rfl, run_takeDeferred HQ.out.1, ?_⟩⟩
    exact ⟨.tuple #[.int .i64 0, .int .i64 40], by simp [results, Try.results42, go_sem, y8, y9], rfl, HQ.out.2.1.trans (belowK_b (w := w) (Nat.le_refl _) W2 D _ (.deferred none) (by have := HS.out; omega) HQ.out.1 rfl rfl)⟩
  case stop =>
    rintro D c' pre' W hD hSp ⟨rfl, x, rfl, hos, hB⟩ hK'
    obtain ⟨rfl, rfl⟩ := HNB.out.2 x hSp
    have h8 := hos (b8, _) (List.mem_cons_self ..)
    have h9 := hos (b9, _) (List.mem_cons_of_mem _ (List.mem_cons_self ..))
    have y8 := cell_kept (cell_of h8 0 _ rfl) (grownBy_putObj' W D (.deferred none)) (fun r e => by cases e; exact ⟨_, hK', rfl⟩)
    have y9 := cell_kept (cell_of h9 0 _ rfl) (grownBy_putObj' W D (.deferred none)) (fun r e => by cases e; exact ⟨_, hK', rfl⟩)
    have HBB := Lib.hid (hB.trans (belowK_b (w := w) (Nat.le_refl _) W D _ (.deferred none) (by have := HS.out; omega) hK' rfl rfl))
    clear hos
    gi_wp2
    refine ⟨by simp, .inl ⟨_, _, rfl, run_takeDeferred hK', ?_⟩⟩
    exact ⟨.tuple #[.int .i64 r, .int .i64 0], by simp [results, Try.results42, go_sem, y8, y9], rfl, HBB.out⟩

end Go.Proofs.Ytainmmdlbajpnaa.Sc
