/-
  The walk of schedule.inner.
-/
import Derived.Test.YtainmmdlbajpnaaScC
import Derived.RangeFuncBox
import Derived.Maps.AppendAt
import Derived.Laws.EntriesVeiled
namespace Go.Proofs.Ytainmmdlbajpnaa.Sc
open Go.RowKit Go.Shelf Go.Proofs.Ytainmmdlbajpnaa Go.Proofs.Ytainmmdlbajpnaa.Ls Go.Proofs.Ytainmmdlbajpnaa.Kb Go.Proofs.Ytainmmdlbajpnaa.Dt
attribute [local go_sem] Oper.semAt_some

theorem far1_any (B : Nat) (E v : Int) (w : World) (h : w.cell? ⟨B, 1, none⟩ = some (.int .i64 E)) :
    Calls Try.prog 44 #[.int .i64 v, .pointer (some ⟨B, 0, none⟩)] w fun e w' => e = .returned (.bool (decide (v < E))) ∧ w' = w := by
  go_enter Try.func44, Try.ntmps44
  go_wp2
  go_ret
  exact ⟨rfl, rfl⟩
theorem far2_any (B : Nat) (S v : Int) (w : World) (h : w.cell? ⟨B, 0, none⟩ = some (.int .i64 S)) :
    Calls Try.prog 45 #[.int .i64 v, .pointer (some ⟨B, 0, none⟩)] w fun e w' => e = .returned (.bool (decide (S < v))) ∧ w' = w := by
  go_enter Try.func45, Try.ntmps45
  go_wp2
  go_ret
  exact ⟨rfl, rfl⟩

theorem blk_five (w : World) (a b c d e : Obj) : ((((((w.alloc a).alloc b).alloc c).alloc d).alloc e).heap[w.heap.size]? = some a ∧ (((((w.alloc a).alloc b).alloc c).alloc d).alloc e).heap[w.heap.size + 1]? = some b ∧
    (((((w.alloc a).alloc b).alloc c).alloc d).alloc e).heap[w.heap.size + 1 + 1]? = some c ∧ (((((w.alloc a).alloc b).alloc c).alloc d).alloc e).heap[w.heap.size + 1 + 1 + 1]? = some d ∧
    (((((w.alloc a).alloc b).alloc c).alloc d).alloc e).heap[w.heap.size + 1 + 1 + 1 + 1]? = some e) ∧ (((((w.alloc a).alloc b).alloc c).alloc d).alloc e).heap.size = w.heap.size + 5 ∧ Below w.heap.size w (((((w.alloc a).alloc b).alloc c).alloc d).alloc e) := by
  refine ⟨?_, by simp [World.size_alloc], ((((((Below.refl _ _).alloc (Nat.le_refl _) _).alloc (by simp) _).alloc (by simp; omega) _).alloc (by simp; omega) _).alloc (by simp; omega) _)⟩
  have e1 : ∀ (w : World) (o : Obj), (w.alloc o).heap = w.heap.push o := fun _ _ => rfl
  simp only [e1, Array.getElem?_push, Array.size_push]
  refine ⟨?_, ?_, ?_, ?_, ?_⟩ <;> (repeat rw [if_neg (by omega)]) <;> simp

/-- what comes ahead of the first day that is too far -/
theorem regL_take (y m d st : Int) (last : Bool) (n M : Nat) (h : n ≤ M) : (regL y m d st last M).take n = regL y m d st last n := by
  have := regL_pre y m d st last n M h
  rw [List.prefix_iff_eq_take] at this
  rw [regL_len] at this
  exact this.symm
theorem pre_cnt {y m d st : Int} {last back : Bool} {S E : Int} {N M : Nat} (hC : Cnt y m d st last back S E N) {pre : List (Int × Bool)} {x : Int × Bool} (h : pre ++ [x] <+: regL y m d st last M)
    (hq : ∀ z ∈ pre, (z.2 && far back S E z.1) = true) (hx : (x.2 && far back S E x.1) = false) : pre.map Prod.fst = innerL y m d st last N ∧ x = (vk y m d st last (N + 1), ok y m d st last (N + 1)) := by
  have hl : pre.length + 1 ≤ M := by
    have := h.length_le
    rw [regL_len] at this
    simpa using this
  rw [List.prefix_iff_eq_take] at h
  rw [List.length_append, List.length_singleton, regL_take _ _ _ _ _ _ _ hl, regL_succ] at h
  obtain ⟨h1, h2⟩ := List.append_inj' h rfl
  have hC' : Cnt y m d st last back S E pre.length := by
    refine ⟨fun k a b => ?_, fun g => ?_⟩
    · have hm : (vk y m d st last k, ok y m d st last k) ∈ pre := by
        rw [h1]
        unfold regL
        rw [List.mem_map]
        exact ⟨k - 1, List.mem_range.2 (by omega), by rw [show k - 1 + 1 = k by omega]⟩
      have := hq _ hm
      rw [Bool.and_eq_true] at this
      exact this
    · have h3 := List.singleton_inj.1 h2
      rw [h3] at hx
      simp only [g.1, g.2, Bool.and_self] at hx
      cases hx
  obtain rfl := hC.unique hC'
  refine ⟨?_, List.singleton_inj.1 h2⟩
  rw [h1]
  unfold regL innerL
  simp

theorem infoI : (Try.prog.info? 3).map (fun i => (i.zero, i.size, i.bytes)) = some (some (.int .i64 0), 1, 8) := by kernel_rfl

/-- between two rounds of the loop of inner -/
def HoldI (os : List (Nat × Obj)) (base B1 : Nat) (q : Int × Bool → Bool) (w : World) (pre : List (Int × Bool)) (W : World) : Prop :=
  (∀ p ∈ os, W.heap[p.1]? = some p.2) ∧ (∃ v, Boxed W B1 22 v ∧ OwnL W base 3 1 ic v (pre.map Prod.fst) ∧ True) ∧ (∀ x ∈ pre, q x = true) ∧ Below w.heap.size w W ∧ base ≤ W.heap.size
theorem holdI_own {os : List (Nat × Obj)} {base B1 : Nat} {q : Int × Bool → Bool} {w : World} (hos : ∀ p ∈ os, p.1 < base) (hw : w.heap.size ≤ base) : OwnFrom base (HoldI os base B1 q w) := by
  rintro pre A B row ⟨h1, h2, h3, h4, h5⟩ hg hr
  refine ⟨fun p hp => ?_, ?_, h3, ?_, Nat.le_trans h5 hg.size⟩
  · rw [← h1 p hp]
    refine hg.block p.1 (blk_lt (h1 p hp)) (fun e => ?_)
    have := (hr p.1 e.symm).1
    have := hos p hp
    omega
  · exact holdsRow_own base B1 22 3 1 (fun pre : List (Int × Bool) => (pre.map Prod.fst).length) (fun pre => (pre.map Prod.fst).flatMap ic) (fun _ _ => True) pre A B row h2 hg (fun r e => (hr r e).2)
  · exact h4.grown hg h4.size (fun r e => Nat.le_trans hw (hr r e).1)

theorem own_ne' {W : World} {base : Nat} {T : TypeId} {v : Value} {xs : List Int} {B : Nat} (h : OwnL W base T 1 ic v xs) (hB : B < base) : v.ownBlock ≠ some B := fun e => by
  have := (h.lt B e).1
  omega
theorem own_drew {W : World} {base : Nat} {T : TypeId} {v : Value} {xs : List Int} (h : OwnL W base T 1 ic v xs) : OwnL W.drew base T 1 ic v xs := World.ownsRow.drew h
/-- the round leaves: the results are stored -/
theorem hold_ret {W w : World} {B0 B1 B2 B3 B4 base : Nat} {o0 o3 o4 : Obj} {v x b : Value} {tb tl T : TypeId} {xs : List Int} (hd : B1 = B0 + 1 ∧ B2 = B0 + 2 ∧ B3 = B0 + 3 ∧ B4 = B0 + 4 ∧ B4 < base ∧ w.heap.size ≤ B0)
    (h0 : W.heap[B0]? = some o0) (h2 : W.heap[B2]? = some (.cells #[x] tb (0, 0))) (h3 : W.heap[B3]? = some o3) (h4 : W.heap[B4]? = some o4) (hv : Boxed W B1 tl v) (hrow : OwnL W base T 1 ic v xs) (hB : Below w.heap.size w W) :
    KeepsFrom base W (((W.setCell ⟨B1, 0, none⟩ v).setCell ⟨B2, 0, none⟩ b).drew) ∧ ((((W.setCell ⟨B1, 0, none⟩ v).setCell ⟨B2, 0, none⟩ b).drew).heap[B0]? = some o0 ∧ (((W.setCell ⟨B1, 0, none⟩ v).setCell ⟨B2, 0, none⟩ b).drew).heap[B2]? = some (.cells #[b] tb (0, 0)) ∧
      (((W.setCell ⟨B1, 0, none⟩ v).setCell ⟨B2, 0, none⟩ b).drew).heap[B3]? = some o3 ∧ (((W.setCell ⟨B1, 0, none⟩ v).setCell ⟨B2, 0, none⟩ b).drew).heap[B4]? = some o4) ∧ Boxed (((W.setCell ⟨B1, 0, none⟩ v).setCell ⟨B2, 0, none⟩ b).drew) B1 tl v ∧
      OwnL (((W.setCell ⟨B1, 0, none⟩ v).setCell ⟨B2, 0, none⟩ b).drew) base T 1 ic v xs ∧ Below w.heap.size w (((W.setCell ⟨B1, 0, none⟩ v).setCell ⟨B2, 0, none⟩ b).drew) := by
  obtain ⟨d1, d2, d3, d4, d5, d6⟩ := hd
  refine ⟨(((KeepsOthers.setCell _ _ _).trans (KeepsOthers.setCell _ _ _)).trans (KeepsOthers.drew _)).from _, ⟨?_, ?_, ?_, ?_⟩, ?_, ?_, ?_⟩
  · exact far_set (far_set h0 (by omega) _) (by omega) _
  · exact set1 (far_set h2 (by omega) _) _
  · exact far_set (far_set h3 (by omega) _) (by omega) _
  · exact far_set (far_set h4 (by omega) _) (by omega) _
  · exact far_set (hv.set v) (by omega) _
  · have h1 := hrow.far (p := ⟨B1, 0, none⟩) (own_ne' (B := B1) hrow (by omega)) v
    exact own_drew (h1.far (p := ⟨B2, 0, none⟩) (own_ne' (B := B2) h1 (by omega)) b)
  · exact ((hB.setCell (p := ⟨B1, 0, none⟩) (by show w.heap.size ≤ B1; omega) _).setCell (p := ⟨B2, 0, none⟩) (by show w.heap.size ≤ B2; omega) _).drew

/-- the round goes on: one day more -/
theorem hold_app {W w w1 : World} {B0 B1 B2 B3 B4 base : Nat} {tmp : Obj} {v v' : Value} {tl T : TypeId} {xs : List Int} {e : Int} (hte : tl ≠ T) (hd : B1 = B0 + 1 ∧ B2 = B0 + 2 ∧ B3 = B0 + 3 ∧ B4 = B0 + 4 ∧ B4 < base ∧ w.heap.size ≤ B0) (hbW : base ≤ W.heap.size)
    (hv : Boxed W B1 tl v) (hrow : OwnL W base T 1 ic v xs) (hB : Below w.heap.size w W)
    (hown : w1.ownsRow base T 1 v' (xs.length + 1) ((xs ++ [e]).flatMap ic)) (hg : (W.alloc tmp).grownBy w1 v.ownBlock) :
    Boxed w1 B1 tl v ∧ KeepsFrom base W (w1.setCell ⟨B1, 0, none⟩ v') ∧ (∀ k, k < base → k ≠ B1 → (w1.setCell ⟨B1, 0, none⟩ v').heap[k]? = W.heap[k]?) ∧ Boxed (w1.setCell ⟨B1, 0, none⟩ v') B1 tl v' ∧
      OwnL (w1.setCell ⟨B1, 0, none⟩ v') base T 1 ic v' (xs ++ [e]) ∧ Below w.heap.size w (w1.setCell ⟨B1, 0, none⟩ v') := by
  obtain ⟨d1, d2, d3, d4, d5, d6⟩ := hd
  have hrow' : W.ownsRow w.heap.size T 1 v xs.length (xs.flatMap ic) := hrow.lower' (by omega)
  have hown2 : OwnL w1 base T 1 ic v' (xs ++ [e]) := by
    unfold OwnL
    rw [List.length_append]
    exact hown
  have hown' : w1.ownsRow w.heap.size T 1 v' (xs ++ [e]).length ((xs ++ [e]).flatMap ic) := hown2.lower' (by omega)
  obtain ⟨a1, a2, a3, a4, a5⟩ := hv.appended hte hrow' hB.size (by omega) hown' hg
  refine ⟨a1, a4.from _, fun k hk hne => ?_, a2, hown2.far (p := ⟨B1, 0, none⟩) (own_ne' (B := B1) hown2 (by omega)) _, hB.trans a5⟩
  rw [Below.heap_setCell w1 ⟨B1, 0, none⟩ v' k hne, hg.block k (by rw [World.size_alloc]; omega) (fun h => own_ne' hrow hk h.symm), Below.heap_alloc _ _ _ (by omega)]

def Sch.other (s : Sch) : Int := if s.back then s.S else s.E

set_option maxRecDepth 100000 in
set_option maxHeartbeats 2000000 in
theorem inner_fwd (S E Mo : Int) (last : Bool) (stub roll wk : Int) (a : Option Addr) (c : Nat) (hs : List Int) (y m d : Int) (N : Nat) (w : World) (hD : IsDate y m d S) (hn : S ≤ 99999) (hMo : 1 ≤ Mo ∧ Mo ≤ 1200)
    (hC : Cnt y m d Mo last false S E N) (_hN : N ≤ 4000) :
    Calls Try.prog 26 #[.agg (Sch.mk S E Mo false last stub roll wk a c hs).cells] w fun e w' => ∃ v, e = .returned (.tuple #[v, .bool (stubB y m d Mo last E N)]) ∧ OwnL w' w.heap.size 3 1 ic v (innerL y m d Mo last N) ∧ Below w.heap.size w w' := by
  obtain ⟨m1, m2⟩ := hMo
  have HD := Lib.hid hD
  have HC := Lib.hid hC
  clear hD hC
  obtain ⟨M, hM1, hM2, hMo, hMn⟩ := end_exists (last := last) HD.out (show Mo ≠ 0 by omega)
  have HM := Lib.hid (And.intro hMo hMn)
  clear hMo hMn
  refine (callsIn_wide (n := 9)).1 ?_
  refine callsIn_of_wp_marks Try.func26 rfl trivial ?_ rfl
  simp only [Try.ntmps26, Sch.cells, List.size_toArray, List.length_cons, List.length_nil, Nat.reduceAdd, Nat.reduceSub, Array.replicate_succ, Array.replicate_zero, List.push_toArray, List.append_toArray, List.nil_append, List.cons_append]
  gi_wp2_with fail
  obtain ⟨⟨k0, k1, k2, k3, k4⟩, hsz, hbo⟩ := blk_five w (.cells #[.int .i64 S, .int .i64 E, .int .i64 Mo, .bool false, .bool last, .int .u8 stub, .int .u8 roll, .int .u8 wk, .slice a hs.length c] 26) (.cells #[.slice none 0 0] 22) (.cells #[.bool false] 4) (.cells #[.func (.func 44) #[] #[.pointer (some ⟨w.heap.size, 0, none⟩)]] 66) (.cells #[.int .i64 E] 3)
  generalize ((((w.alloc _).alloc _).alloc _).alloc _).alloc _ = w5 at k0 k1 k2 k3 k4 hsz hbo ⊢
  refine ⟨trivial, callsIn_wide.2 ((regular_any ⟨S, E, Mo, false, last, stub, roll, wk, a, c, hs⟩ w5 ⟨m1, m2⟩).mono ?_)⟩
  rintro e w1 ⟨X, Fb, T, rfl, kX, kF, kT, ⟨g1, g2, g3⟩, hb1⟩
  have k0 := blk_keep k0 hb1
  have k1 := blk_keep k1 hb1
  have k2 := blk_keep k2 hb1
  have k3 := blk_keep k3 hb1
  have k4 := blk_keep k4 hb1
  have c1 := bt hbo hb1 (Nat.le_refl _)
  have lX := blk_lt kX
  have lF := blk_lt kF
  have lT := blk_lt kT
  have hs1 := hb1.size
  rw [hsz] at g1 g2 g3 hs1
  clear hb1 hbo hsz
  have HK := Lib.hid (And.intro k0 (And.intro k1 (And.intro k2 (And.intro k3 k4))))
  have HX := Lib.hid (And.intro kX (And.intro kF kT))
  clear k0 k1 k2 k3 k4 kX kF kT
  clear k0 k1 k2 k3 k4
  gi_wp2
  obtain ⟨B1, hB1⟩ : ∃ B, w.heap.size + 1 = B := ⟨_, rfl⟩
  obtain ⟨B2, hB2⟩ : ∃ B, w.heap.size + 1 + 1 = B := ⟨_, rfl⟩
  obtain ⟨B3, hB3⟩ : ∃ B, w.heap.size + 1 + 1 + 1 = B := ⟨_, rfl⟩
  obtain ⟨B4, hB4⟩ : ∃ B, w.heap.size + 1 + 1 + 1 + 1 = B := ⟨_, rfl⟩
  rw [hB4, hB3, hB2, hB1] at HK ⊢
  obtain ⟨B0, hB0⟩ : ∃ B, w.heap.size = B := ⟨_, rfl⟩
  have HB0 := Lib.hid hB0
  rw [hB0] at HK ⊢
  have HS : Hid (B0 < w1.heap.size ∧ B1 < w1.heap.size ∧ B2 < w1.heap.size ∧ B3 < w1.heap.size ∧ B4 < w1.heap.size ∧ B1 = B0 + 1 ∧ B2 = B0 + 2 ∧ B3 = B0 + 3 ∧ B4 = B0 + 4 ∧ w.heap.size = B0) := by
    unfold Hid
    omega
  have HS2 : Hid (w.heap.size ≤ w1.heap.size ∧ B0 ≤ w1.heap.size) := by
    unfold Hid
    omega
  have hlXFT : ∀ b ∈ [X, Fb, T], b < w1.heap.size := fun b hb => by
    simp only [List.mem_cons, List.not_mem_nil, or_false] at hb
    omega
  have HL := Lib.hid hlXFT
  have HG : Hid (B0 + 5 ≤ X ∧ B0 + 5 ≤ Fb ∧ B0 + 5 ≤ T) := by
    unfold Hid
    omega
  have HC1 := Lib.hid c1
  clear hB0 hB1 hB2 hB3 hB4 lX lF lT hs1 g1 g2 g3 hlXFT c1
  obtain ⟨i0, hi, hz0, hz1, hz2⟩ := info_parts infoI
  have HI := Lib.hid (And.intro hi (And.intro hz0 (And.intro hz1 hz2)))
  clear hi hz0 hz1 hz2
  refine wpIn_rangeFunc_ownG (F := Fence.wide) rfl (by omega) (gf := 57) (lb := #[.pointer (some ⟨T, 0, none⟩), .pointer (some ⟨Fb, 0, none⟩), .pointer (some ⟨X, 0, none⟩)]) rfl trivial (enters_of Try.func57 (by kernel_rfl) rfl)
    (iter_stops ⟨S, E, Mo, false, last, stub, roll, wk, a, c, hs⟩ y m d Mo S M X Fb T 8 w1 HD.out hn (by omega) (by omega) (by omega) (by omega) hM1 hM2 HM.out.1 HM.out.2 HX.out.1 HX.out.2.1 HX.out.2.2) (fun h k => h.t k) (kpB_b HL.out) (Below.refl _ _) (fun _ => rfl)
    (HoldI ([(B0, .cells #[.int .i64 S, .int .i64 E, .int .i64 Mo, .bool false, .bool last, .int .u8 stub, .int .u8 roll, .int .u8 wk, .slice a hs.length c] 26), (B2, .cells #[.bool false] 4), (B3, .cells #[.func (.func 44) #[] #[.pointer (some ⟨B0, 0, none⟩)]] 66), (B4, .cells #[.int .i64 E] 3)]) w1.heap.size B1 (fun x => x.2 && decide (x.1 < E)) w)
    (fun c' pre' W => c' = .ret ∧ ∃ pre x, pre' = pre ++ [x] ∧ (x.2 && decide (x.1 < E)) = false ∧ HoldI ([(B0, .cells #[.int .i64 S, .int .i64 E, .int .i64 Mo, .bool false, .bool last, .int .u8 stub, .int .u8 roll, .int .u8 wk, .slice a hs.length c] 26), (B2, .cells #[.bool (!x.2 || x.1 != E)] 4), (B3, .cells #[.func (.func 44) #[] #[.pointer (some ⟨B0, 0, none⟩)]] 66), (B4, .cells #[.int .i64 E] 3)]) w1.heap.size B1 (fun x => x.2 && decide (x.1 < E)) w pre W)
    (holdI_own (by intro p hp; simp only [List.mem_cons, List.not_mem_nil, or_false] at hp; have := HS.out; rcases hp with rfl | rfl | rfl | rfl <;> simp <;> omega) HS2.out.1)
    (fun c' s A B row h hg hr => by
      obtain ⟨h1, pre, x, h2, h3, h4⟩ := h
      exact ⟨h1, pre, x, h2, h3, holdI_own (by intro p hp; simp only [List.mem_cons, List.not_mem_nil, or_false] at hp; have := HS.out; rcases hp with rfl | rfl | rfl | rfl <;> simp <;> omega) HS2.out.1 pre A B row h4 hg hr⟩)
    ⟨by
      intro p hp
      have := HK.out
      simp only [List.mem_cons, List.not_mem_nil, or_false] at hp
      rcases hp with rfl | rfl | rfl | rfl
      · exact this.1
      · exact this.2.2.1
      · exact this.2.2.2.1
      · exact this.2.2.2.2, ⟨_, HK.out.2.1, OwnL.nil _ _ _ _ _, trivial⟩, by simp, HC1.out, Nat.le_refl _⟩
    (fun x => { tmps := #[.agg #[.int .i64 S, .int .i64 E, .int .i64 Mo, .bool false, .bool last, .int .u8 stub, .int .u8 roll, .int .u8 wk, .slice a hs.length c],
      .pointer (some ⟨B0, 0, none⟩), .pointer (some ⟨B1, 0, none⟩), .pointer (some ⟨B2, 0, none⟩), .pointer (some ⟨B3, 0, none⟩), .pointer (some ⟨B4, 0, none⟩), .int .i64 x.1, .bool x.2,
      .func (.func 44) #[] #[.pointer (some ⟨B0, 0, none⟩)], .pointer (some ⟨B0, 1, none⟩), .int .i64 E, .pointer (some ⟨B0, 3, none⟩), .bool false, undef, undef, undef,
      .agg #[.int .i64 S, .int .i64 E, .int .i64 Mo, .bool false, .bool last, .int .u8 stub, .int .u8 roll, .int .u8 wk, .slice a hs.length c],
      .func (.func 57) #[] #[.pointer (some ⟨T, 0, none⟩), .pointer (some ⟨Fb, 0, none⟩), .pointer (some ⟨X, 0, none⟩)], .int .i64 x.1, .bool x.2,
      undef, undef, undef, undef, undef, undef, undef, undef, undef, undef, undef, undef, undef, undef, undef, undef, undef, undef, undef, undef, undef], defers := [] }) ?assign ?body ?done ?stop
  case assign =>
    intro l x W K hK
    dsimp only [encR]
    gi_wp2
    exact hK
  case body =>
    rintro l pre ⟨v', b⟩ W ⟨hos, ⟨v, hv, hrow, _⟩, hq, hB, hbW⟩ hlt
    obtain ⟨va, vc, rfl, _⟩ := hrow.read ic_len
    have hmx : Try.prog.follows .mixedOrders = true := by kernel_rfl
    have n12 : B1 ≠ B2 := by have := HS.out; omega
    have n21 : B2 ≠ B1 := by have := HS.out; omega
    have n14 : B1 ≠ B4 := by have := HS.out; omega
    have n41 : B4 ≠ B1 := by have := HS.out; omega
    have n24 : B2 ≠ B4 := by have := HS.out; omega
    have n42 : B4 ≠ B2 := by have := HS.out; omega
    have h0 := hos (B0, _) (List.mem_cons_self ..)
    have h2 := hos (B2, _) (List.mem_cons_of_mem _ (List.mem_cons_self ..))
    have h3 := hos (B3, _) (List.mem_cons_of_mem _ (List.mem_cons_of_mem _ (List.mem_cons_self ..)))
    have h4 := hos (B4, _) (List.mem_cons_of_mem _ (List.mem_cons_of_mem _ (List.mem_cons_of_mem _ (List.mem_cons_self ..))))
    have x1 := cell_of h0 1 _ rfl
    have y2 := cell_of h2 0 _ rfl
    have y3 := cell_of h3 0 _ rfl
    have y4 := cell_of h4 0 _ rfl
    have f2 := frozen_of h2 0
    have y1 := hv.cell
    have f1 := hv.frozen
    have HO := Lib.hid (And.intro h0 (And.intro h2 (And.intro h3 h4)))
    have HQ := Lib.hid hq
    clear hos hq h0 h2 h3 h4
    dsimp only at *
    have hl : (pre.map Prod.fst).length = pre.length := List.length_map ..
    rw [hl] at hv hrow y1
    clear hl
    have HV := Lib.hid (And.intro hv hrow)
    have HD5 : Hid (B1 = B0 + 1 ∧ B2 = B0 + 2 ∧ B3 = B0 + 3 ∧ B4 = B0 + 4 ∧ B4 < w1.heap.size ∧ w.heap.size ≤ B0) := by
      have := HS.out
      unfold Hid
      omega
    clear hv hrow
    cases b
    · gi_wp2_with fail
      refine ⟨fun _ h => (by cases h), ?_⟩
      gi_wp2_with fail
      gi_region_with_o (fail)
      all_goals gi_wp2
      all_goals
        obtain ⟨r1, ⟨r2, r3, r4, r5⟩, r6, r7, r8⟩ := hold_ret (b := .bool true) HD5.out HO.out.1 HO.out.2.1 HO.out.2.2.1 HO.out.2.2.2 HV.out.1 HV.out.2 hB
        refine ⟨r1, rfl, pre, (v', false), rfl, rfl, ?_, ⟨_, r6, r7, trivial⟩, HQ.out, r8, Nat.le_trans hbW r1.size⟩
        intro p hp
        simp only [List.mem_cons, List.not_mem_nil, or_false] at hp
        rcases hp with rfl | rfl | rfl | rfl
        · exact r2
        · exact r3
        · exact r4
        · exact r5
    · by_cases hF : v' < E
      · gi_wp2_with fail
        refine ⟨trivial, (CallsIn.inRound l (callsIn_wide.2 (far1_any B0 E v' _ x1))).mono ?_⟩
        rintro e w' ⟨rfl, rfl⟩
        rw [decide_eq_true hF]
        have hlen : pre.length ≤ 4001 := by omega
        gi_wp2_with (gi_at_builtin; refine wpListIn_append_own _ rfl _ _ 22 rfl w1.heap.size 3 i0 (.int .i64 0) 1 8 Try.underlying22 HI.out.1 HI.out.2.1 HI.out.2.2.1 HI.out.2.2.2 rfl (by decide) _ _ _ rfl (World.ownsRow.alloc HV.out.2 _) ⟨w'.heap.size, 0, none⟩ 1 1 [.int .i64 v'] rfl rfl (cell_one_new _ _ _) (by simp [Value.oneCell']) (by simp [maxLen]; omega) (by simp; omega) (by simp; omega) ?_; intro v2 w2 hown' hgrow _; obtain ⟨g', cap', rfl⟩ := ownsRow_succ hown'; obtain ⟨q1, q2, q3, q4, q5, q6⟩ := hold_app (e := v') (by decide) HD5.out hbW HV.out.1 HV.out.2 hB (by simpa [ic] using hown') hgrow; have hc1 := q1.cell; have hf1 := q1.frozen)
        refine ⟨q2, fun b hb => q3 b (HL.out b hb) ?_, fun p hp => ?_, ⟨_, q4, by simpa using q5, trivial⟩, fun z hz => ?_, q6, Nat.le_trans hbW q2.size⟩
        · have := HG.out
          have := HD5.out
          simp only [List.mem_cons, List.not_mem_nil, or_false] at hb
          omega
        · have := HD5.out
          simp only [List.mem_cons, List.not_mem_nil, or_false] at hp
          rcases hp with rfl | rfl | rfl | rfl
          · exact (q3 B0 (by omega) (by omega)).trans HO.out.1
          · exact (q3 B2 (by omega) (by omega)).trans HO.out.2.1
          · exact (q3 B3 (by omega) (by omega)).trans HO.out.2.2.1
          · exact (q3 B4 (by omega) (by omega)).trans HO.out.2.2.2
        · rcases List.mem_append.1 hz with h | h
          · exact HQ.out z h
          · obtain rfl := List.mem_singleton.1 h
            show (true && decide (v' < E)) = true
            rw [decide_eq_true hF]
            rfl
      · gi_wp2_with fail
        refine ⟨trivial, (CallsIn.inRound l (callsIn_wide.2 (far1_any B0 E v' _ x1))).mono ?_⟩
        rintro e w' ⟨rfl, rfl⟩
        rw [decide_eq_false (by omega)]
        gi_wp2_with fail
        gi_region_with_o (fail)
        all_goals gi_wp2
        all_goals
          obtain ⟨r1, ⟨r2, r3, r4, r5⟩, r6, r7, r8⟩ := hold_ret (b := .bool (v' != E)) HD5.out HO.out.1 HO.out.2.1 HO.out.2.2.1 HO.out.2.2.2 HV.out.1 HV.out.2 hB
          refine ⟨r1, rfl, pre, (v', true), rfl, ?_, ?_, ⟨_, r6, r7, trivial⟩, HQ.out, r8, Nat.le_trans hbW r1.size⟩
          · show (true && decide (v' < E)) = false
            rw [decide_eq_false (by omega)]
            rfl
          intro p hp
          simp only [List.mem_cons, List.not_mem_nil, or_false] at hp
          rcases hp with rfl | rfl | rfl | rfl
          · exact r2
          · exact r3
          · exact r4
          · exact r5
  case done =>
    rintro D ys W hD rfl ⟨_, _, hq, _, _⟩ hK
    exfalso
    have hm : (vk y m d Mo last M, ok y m d Mo last M) ∈ regL y m d Mo last M := by
      unfold regL
      rw [List.mem_map]
      exact ⟨M - 1, List.mem_range.2 (by omega), by rw [show M - 1 + 1 = M by omega]⟩
    have := hq _ hm
    rw [HM.out.2] at this
    cases this
  case stop =>
    rintro D c' pre' W hD hSp ⟨rfl, pre, x, rfl, hqx, hos, ⟨v, hv, hrow, _⟩, hq, hB, hbW⟩ hK
    obtain ⟨p1, rfl⟩ := pre_cnt HC.out hSp hq hqx
    obtain ⟨va, vc, rfl, _⟩ := hrow.read ic_len
    have h2 := hos (B2, _) (List.mem_cons_of_mem _ (List.mem_cons_self ..))
    have y1 := cell_kept hv.cell (grownBy_putObj' W D (.deferred none)) (fun r e => by cases e; exact ⟨_, hK, rfl⟩)
    have y2 := cell_kept (cell_of h2 0 _ rfl) (grownBy_putObj' W D (.deferred none)) (fun r e => by cases e; exact ⟨_, hK, rfl⟩)
    have HR := Lib.hid (show OwnL (W.putObj D (.deferred none)) w1.heap.size 3 1 ic _ (pre.map Prod.fst) from ownsRow_putObj hrow _ hK rfl)
    have HBB := Lib.hid (hB.trans (belowK_b (w := w) (Nat.le_refl _) W D _ (.deferred none) (Nat.le_trans HS2.out.1 hD) hK rfl rfl))
    have HP1 := Lib.hid p1
    clear p1 hos hq hqx hv hrow hB
    gi_wp2
    refine ⟨by simp, .inl ⟨_, _, rfl, run_takeDeferred hK, ?_⟩⟩
    have HSB : Hid ((!ok y m d Mo last (N + 1) || vk y m d Mo last (N + 1) != E) = stubB y m d Mo last E N) := rfl
    refine ⟨.tuple #[.slice va (pre.map Prod.fst).length vc, .bool (!ok y m d Mo last (N + 1) || vk y m d Mo last (N + 1) != E)], by simp [results, Try.results26, go_sem, y1, y2], .slice va (pre.map Prod.fst).length vc, by rw [HSB.out], ?_, HBB.out⟩
    rw [← HP1.out]
    exact OwnL.lower' HR.out HS2.out.1

end Go.Proofs.Ytainmmdlbajpnaa.Sc
