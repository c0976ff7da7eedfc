/-
  The calendar: the iterator over business days; the walk of calendar.nth.
-/
import Derived.Test.YtainmmdlbajpnaaClA
import Derived.Test.YtainmmdlbajpnaaScC
import Derived.RangeFuncBox
import Derived.Laws.EntriesVeiled
namespace Go.Proofs.Ytainmmdlbajpnaa.Sc
open Go.RowKit Go.Shelf Go.Proofs.Ytainmmdlbajpnaa Go.Proofs.Ytainmmdlbajpnaa.Ls Go.Proofs.Ytainmmdlbajpnaa.Kb
open Go.Proofs.Ytainmmdlbajpnaa.Dt hiding ret_bool ret_int
attribute [local go_sem] Oper.semAt_some

theorem below_drewN' {B : Nat} {a w : World} (h : Below B a w) (n : Nat) : Below B a (w.drewN n) := h.trans ⟨rfl, rfl, rfl, Nat.le_refl _, fun _ _ => rfl⟩
def inD (d : Int) : Prop := 0 ≤ d ∧ d ≤ 99999
/-- the first business day from d on, in steps of st; or none -/
inductive NB (wk : Int) (hs : List Int) (d st r e : Int) : Prop
  | yes (k : Nat) (h : ∀ j : Nat, j < k → inD (d + j * st) ∧ opB wk hs (d + j * st) = false) (h1 : inD (d + k * st)) (h2 : opB wk hs (d + k * st) = true) (h3 : r = d + k * st) (h4 : e = 0)
  | no (K : Nat) (h : ∀ j : Nat, j < K → inD (d + j * st) ∧ opB wk hs (d + j * st) = false) (h1 : ¬ inD (d + K * st)) (h3 : r = 0) (h4 : e = 40)

/-- the first day that is out of range -/
theorem out_exists (d st : Int) (hs : st = 1 ∨ st = -1) : ∃ K : Nat, K ≤ 100000 + d.toNat ∧ (∀ j : Nat, j < K → inD (d + j * st)) ∧ ¬ inD (d + K * st) := by
  by_cases hd : inD d
  · unfold inD at hd
    rcases hs with rfl | rfl
    · refine ⟨(100000 - d).toNat, by omega, fun j hj => ?_, ?_⟩
      · unfold inD
        omega
      · unfold inD
        omega
    · refine ⟨(d + 1).toNat, by omega, fun j hj => ?_, ?_⟩
      · unfold inD
        omega
      · unfold inD
        omega
  · exact ⟨0, by omega, fun j hj => by omega, by simpa using hd⟩
theorem nb_exists (wk : Int) (hs : List Int) (d st : Int) (hst : st = 1 ∨ st = -1) : ∃ r e, NB wk hs d st r e := by
  obtain ⟨K, _, h1, h2⟩ := out_exists d st hst
  rcases least (fun k => decide (k ≤ K) && !opB wk hs (d + ((k - 1 : Nat) : Int) * st)) K with h | ⟨N, hN, ha, hb⟩
  · refine ⟨0, 40, .no K (fun j hj => ⟨h1 j hj, ?_⟩) h2 rfl rfl⟩
    have := h (j + 1) (by omega) (by omega)
    simp only [Bool.and_eq_true, decide_eq_true_eq, Nat.add_sub_cancel, Bool.not_eq_true'] at this
    exact this.2
  · refine ⟨_, 0, .yes N (fun j hj => ⟨h1 j (by omega), ?_⟩) (h1 N hN) ?_ rfl rfl⟩
    · have := ha (j + 1) (by omega) (by omega)
      simp only [Bool.and_eq_true, decide_eq_true_eq, Nat.add_sub_cancel, Bool.not_eq_true'] at this
      exact this.2
    · simp only [Bool.and_eq_true, decide_eq_true_eq, Nat.add_sub_cancel, Bool.not_eq_true', not_and] at hb
      have := hb (by omega)
      simpa using this

/-- what the iterator gives: the business days among so many -/
def bdL (wk : Int) (hs : List Int) (d st : Int) (k : Nat) : List Int := ((List.range k).map fun j : Nat => d + (j : Int) * st).filter (opB wk hs)
theorem bdL_succ (wk : Int) (hs : List Int) (d st : Int) (k : Nat) : bdL wk hs d st (k + 1) = if opB wk hs (d + (k : Int) * st) then bdL wk hs d st k ++ [d + (k : Int) * st] else bdL wk hs d st k := by
  unfold bdL
  rw [List.range_succ, List.map_append, List.filter_append]
  simp only [List.map_cons, List.map_nil, List.filter_cons, List.filter_nil]
  split <;> simp
theorem bdL_pre (wk : Int) (hs : List Int) (d st : Int) (k M : Nat) (h : k ≤ M) : bdL wk hs d st k <+: bdL wk hs d st M := by
  induction M with
  | zero =>
    obtain rfl : k = 0 := by omega
    exact List.prefix_refl _
  | succ M ih =>
    by_cases e : k = M + 1
    · rw [e]
      exact List.prefix_refl _
    · rw [bdL_succ]
      split
      · exact (ih (by omega)).trans (List.prefix_append _ _)
      · exact ih (by omega)
theorem bdL_len (wk : Int) (hs : List Int) (d st : Int) (k : Nat) : (bdL wk hs d st k).length ≤ k := by
  have := List.length_filter_le (opB wk hs) ((List.range k).map fun j : Nat => d + (j : Int) * st)
  unfold bdL
  simpa using this
theorem bdL_none (wk : Int) (hs : List Int) (d st : Int) (k : Nat) (h : ∀ j : Nat, j < k → opB wk hs (d + j * st) = false) : bdL wk hs d st k = [] := by
  induction k with
  | zero => rfl
  | succ k ih =>
    rw [bdL_succ, h k (by omega), ih (fun j hj => h j (by omega))]
    rfl
/-- the first day of the list -/
theorem nb_head {wk : Int} {hs : List Int} {d st r e : Int} (h : NB wk hs d st r e) {K : Nat} (hK : ∀ j : Nat, j < K → inD (d + j * st)) (hK2 : ¬ inD (d + K * st)) :
    (bdL wk hs d st K = [] → r = 0 ∧ e = 40) ∧ (∀ x, [x] <+: bdL wk hs d st K → r = x ∧ e = 0) := by
  cases h with
  | yes k h h1 h2 h3 h4 =>
    have hkK : k < K := by
      rcases Nat.lt_or_ge k K with g | g
      · exact g
      · rcases Nat.lt_or_ge K k with g2 | g2
        · exact absurd (h K g2).1 hK2
        · obtain rfl : k = K := by omega
          exact absurd h1 hK2
    have hp := bdL_pre wk hs d st (k + 1) K hkK
    rw [bdL_succ, h2, if_pos rfl, bdL_none wk hs d st k (fun j hj => (h j hj).2), List.nil_append] at hp
    refine ⟨fun e => ?_, fun x hx => ?_⟩
    · rw [e] at hp
      simp at hp
    · obtain ⟨t, ht⟩ := hp
      obtain ⟨u, hu⟩ := hx
      rw [← ht] at hu
      simp only [List.singleton_append, List.cons.injEq] at hu
      exact ⟨h3.trans hu.1.symm, h4⟩
  | no K' h h1 h3 h4 =>
    have : bdL wk hs d st K = [] := bdL_none wk hs d st K (fun j hj => by
      rcases Nat.lt_or_ge j K' with g | g
      · exact (h j g).2
      · rcases Nat.lt_or_ge K' K with g2 | g2
        · exact absurd (hK K' g2) h1
        · omega)
    refine ⟨fun _ => ⟨h3, h4⟩, fun x hx => ?_⟩
    rw [this] at hx
    simp at hx
def encD (x : Int) : Array Value := #[.int .i64 x]

/-- the blocks of a list lie as they lay, and so do lists of numbers -/
def KpC (bs : List Nat) (W W' : World) : Prop := KpB bs W W' ∧ ∀ a xs, AtL W 1 ic a xs → AtL W' 1 ic a xs
theorem KpC.t {bs : List Nat} {A B C : World} (h : KpC bs A B) (k : KpC bs B C) : KpC bs A C := ⟨h.1.t k.1, fun a xs g => k.2 a xs (h.2 a xs g)⟩
theorem kpC_b {bs : List Nat} {w : World} (hbs : ∀ b ∈ bs, b < w.heap.size) (W : World) (l : Nat) (o o' : Obj) (hl : w.heap.size ≤ l) (h : W.heap[l]? = some o) (hc : o.isCells = false) (hk : o.isWalk = false) : KpC bs W (W.putObj l o') :=
  ⟨kpB_b hbs W l o o' hl h hc hk, fun a xs g i x hx => by
    obtain ⟨b, off, ha, hcell⟩ := g i x hx
    exact ⟨b, off, ha, fun j u hu => cell_kept (hcell j u hu) (grownBy_putObj' W l o') (fun r e => by cases e; exact ⟨_, h, hc⟩)⟩⟩

set_option maxRecDepth 100000 in
set_option maxHeartbeats 1000000 in
theorem days_in (wk : Int) (a : Option Addr) (c : Nat) (hs : List Int) (d st : Int) (K B0 B1 B2 B3 l N : Nat) (J Jx : List Int → World → Prop) (W : World) (hC : calOK wk hs = true) (hw : 0 ≤ wk) (hd : inD d) (hst : st = 1 ∨ st = -1) (hN : 1 ≤ N)
    (hK : ∀ j : Nat, j < K → inD (d + j * st)) (hK2 : ¬ inD (d + K * st)) (hA : AtL W 1 ic a hs)
    (h0 : W.heap[B0]? = some (.cells #[.int .u8 wk, .slice a hs.length c] 24 (0, 0))) (h1 : W.heap[B1]? = some (.cells #[.int .i64 d] 3 (0, 0))) (h2 : W.heap[B2]? = some (.cells #[.int .i64 st] 3 (0, 0)))
    (h3 : W.heap[B3]? = some (.cells #[.func (.func 69) #[] #[.pointer (some ⟨B0, 0, none⟩)]] 66 (0, 0)))
    (hJ : AbidesFrom W.heap.size J) (_hJx : AbidesFrom W.heap.size Jx)
    (hY : ∀ pre x W1, J pre W1 → pre.length < K → YieldAt Fence.wide (N - 1) Try.prog l (encD x) W1 fun e W' =>
      (e = .returned (.bool true) ∧ J (pre ++ [x]) W' ∧ KpC [B0, B1, B2, B3] W1 W') ∨ (e = .returned (.bool false) ∧ Jx (pre ++ [x]) W'))
    (hJ0 : J [] W) :
    CallsIn Fence.wide N Try.prog 66 (#[.func (.yield l) #[] #[]] ++ #[.pointer (some ⟨B1, 0, none⟩), .pointer (some ⟨B2, 0, none⟩), .pointer (some ⟨B3, 0, none⟩)]) W fun e W' => (∃ v, e = .returned v) ∧
      ((∃ ys, ys = bdL wk hs d st K ∧ J ys W') ∨ (∃ pre, pre <+: bdL wk hs d st K ∧ Jx pre W')) := by
  refine callsIn_of_wp Try.func66 rfl trivial ?_ rfl
  simp only [Try.ntmps66, List.size_toArray, List.length_cons, List.length_nil, Nat.reduceAdd, Nat.reduceSub, Array.replicate_succ, Array.replicate_zero, List.push_toArray, List.append_toArray, List.nil_append, List.cons_append]
  have H := Lib.hid (And.intro h0 (And.intro h1 (And.intro h2 h3)))
  have HA := Lib.hid hA
  have HC := Lib.hid hC
  have y1 := cell_of h1 0 _ rfl
  have HST : Hid (st * st = 1) := by
    unfold Hid
    rcases hst with rfl | rfl <;> rfl
  have HK := Lib.hid (And.intro hK hK2)
  have hst2 : -1 ≤ st ∧ st ≤ 1 := by omega
  unfold inD at hd
  have HKB : Hid (K ≤ 100001) := by
    unfold Hid
    rcases Nat.lt_or_ge 100001 K with g | g
    · have := hK 100001 g
      unfold inD at this
      omega
    · exact g
  clear h0 h1 h2 h3 hA hC hK hK2 hst
  gi_wp2
  gi_loopw [5] (fun p wr => ∃ j : Nat, j ≤ K ∧ p = .int .i64 (d + (j : Int) * st) ∧ J (bdL wk hs d st j) wr ∧ Hid (AtL wr 1 ic a hs) ∧ Hid (wr.heap[B0]? = some (.cells #[.int .u8 wk, .slice a hs.length c] 24 (0, 0)) ∧ wr.heap[B1]? = some (.cells #[.int .i64 d] 3 (0, 0)) ∧ wr.heap[B2]? = some (.cells #[.int .i64 st] 3 (0, 0)) ∧
      wr.heap[B3]? = some (.cells #[.func (.func 69) #[] #[.pointer (some ⟨B0, 0, none⟩)]] 66 (0, 0))))
    (fun p _ => K - ((intOf p - d) * st).toNat)
  case atStart => exact ⟨0, by omega, by simp, hJ0, HA, H⟩
  case round =>
    clear H HA y1
    obtain ⟨j, hj, rfl, hJj, HA, H⟩ := hrel
    have y2 := cell_of H.out.2.2.1 0 _ rfl
    have y3 := cell_of H.out.2.2.2 0 _ rfl
    have HM : Hid (K - ((d + (j : Int) * st - d) * st).toNat = K - j) := by
      unfold Hid
      rw [show d + (j : Int) * st - d = (j : Int) * st by omega, Int.mul_assoc, HST.out]
      simp
    have HN2 : Hid (d + (j : Int) * st + st = d + ((j + 1 : Nat) : Int) * st) := by
      unfold Hid
      rw [show ((j + 1 : Nat) : Int) = (j : Int) + 1 by omega, Int.add_mul]
      omega
    have HBS := Lib.hid (bdL_succ wk hs d st j)
    rcases Nat.lt_or_ge j K with hlt | hge
    · have hin := HK.out.1 j hlt
      unfold inD at hin
      have HIN := Lib.hid (show (decide (0 ≤ d + (j : Int) * st) && decide (d + (j : Int) * st ≤ 99999)) = true by rw [decide_eq_true hin.1, decide_eq_true hin.2]; rfl)
      generalize hq : d + (j : Int) * st = q at *
      clear hq
      gi_wp2_with fail
      refine ⟨trivial, callsIn_wide.2 ((inside_any q wr).mono ?_)⟩
      rintro e w1 ⟨rfl, rfl⟩
      rw [HIN.out]
      gi_wp2_with fail
      refine ⟨trivial, callsIn_wide.2 ((op_any B0 wk a c hs q w1 H.out.1 HA.out HC.out hw hin.1).mono ?_)⟩
      rintro e w2 ⟨rfl, nq, rfl⟩
      have hbd := below_drewN' (Below.refl w1.heap.size w1) nq
      have hJ1 : J (bdL wk hs d st j) (w1.drewN nq) := hJ _ _ _ none hJj (grown_of hbd) (by simp)
      have HA1 := Lib.hid (HA.out.below hbd)
      have H1 := Lib.hid (show (w1.drewN nq).heap[B0]? = _ ∧ (w1.drewN nq).heap[B1]? = _ ∧ (w1.drewN nq).heap[B2]? = _ ∧ (w1.drewN nq).heap[B3]? = _ from H.out)
      have HL1 := Lib.hid (bdL_len wk hs d st j)
      have HY := Lib.hid (hY (bdL wk hs d st j) q (w1.drewN nq) hJ1 (by have := HL1.out; omega))
      clear hY hJj HA H y2 y3 hbd
      generalize w1.drewN nq = w3 at hJ1 HA1 H1 HY ⊢
      rcases hb (opB wk hs q) with ho | ho
      · rw [ho, if_pos rfl] at HBS
        rw [ho]
        clear ho
        obtain ⟨fn, tmps, assign, body, hy, hR⟩ := HY.out
        clear HY hJ1
        dsimp only [encD] at hy
        gi_wp2
        refine hR.mono ?_
        rintro e W3 (⟨rfl, hJ3, hk3⟩ | ⟨rfl, hJx3⟩)
        · have HA3 := Lib.hid (hk3.2 a hs HA1.out)
          have H3 : Hid (W3.heap[B0]? = some (.cells #[.int .u8 wk, .slice a hs.length c] 24 (0, 0)) ∧ W3.heap[B1]? = some (.cells #[.int .i64 d] 3 (0, 0)) ∧ W3.heap[B2]? = some (.cells #[.int .i64 st] 3 (0, 0)) ∧
              W3.heap[B3]? = some (.cells #[.func (.func 69) #[] #[.pointer (some ⟨B0, 0, none⟩)]] 66 (0, 0))) :=
            ⟨(hk3.1 B0 (by simp)).trans H1.out.1, (hk3.1 B1 (by simp)).trans H1.out.2.1, (hk3.1 B2 (by simp)).trans H1.out.2.2.1, (hk3.1 B3 (by simp)).trans H1.out.2.2.2⟩
          have y2 := cell_of H3.out.2.2.1 0 _ rfl
          gi_wp2
          go_roundw
          case rel =>
            refine ⟨j + 1, by omega, ?_, ?_, HA3, H3⟩
            · rw [HN2.out]
            · rw [HBS.out]
              exact hJ3
          case measure =>
            have e2 : ((d + ((j + 1 : Nat) : Int) * st - d) * st).toNat = j + 1 := by
              rw [show d + ((j + 1 : Nat) : Int) * st - d = ((j + 1 : Nat) : Int) * st by omega, Int.mul_assoc, HST.out]
              simp
            simp only [intOf]
            rw [HN2.out, e2, HM.out]
            omega
        · gi_wp2
          refine bodyPost_ret (results_none rfl _ _ _) rfl ?_
          refine ⟨⟨_, rfl⟩, .inr ⟨_, ?_, hJx3⟩⟩
          rw [← HBS.out]
          exact bdL_pre _ _ _ _ _ _ hlt
      · rw [ho, if_neg (by simp)] at HBS
        rw [ho]
        clear ho HY
        have y2 := cell_of H1.out.2.2.1 0 _ rfl
        gi_wp2_with fail
        refine ⟨fun _ h => (by cases h), ?_⟩
        gi_wp2
        go_roundw
        case rel =>
          refine ⟨j + 1, by omega, ?_, ?_, HA1, H1⟩
          · rw [HN2.out]
          · rw [HBS.out]
            exact hJ1
        case measure =>
          have e2 : ((d + ((j + 1 : Nat) : Int) * st - d) * st).toNat = j + 1 := by
            rw [show d + ((j + 1 : Nat) : Int) * st - d = ((j + 1 : Nat) : Int) * st by omega, Int.mul_assoc, HST.out]
            simp
          simp only [intOf]
          rw [HN2.out, e2, HM.out]
          omega
    · obtain rfl : j = K := by omega
      have hin := HK.out.2
      unfold inD at hin
      have HIN := Lib.hid (show (decide (0 ≤ d + (j : Int) * st) && decide (d + (j : Int) * st ≤ 99999)) = false by
        rw [Bool.and_eq_false_iff, decide_eq_false_iff_not, decide_eq_false_iff_not]
        omega)
      gi_wp2_with fail
      refine ⟨trivial, callsIn_wide.2 ((inside_any _ wr).mono ?_)⟩
      rintro e w1 ⟨rfl, rfl⟩
      rw [HIN.out]
      gi_wp2
      go_end0
      exact ⟨⟨_, rfl⟩, .inl ⟨_, rfl, hJj⟩⟩

theorem days_stops (wk : Int) (a : Option Addr) (c : Nat) (hs : List Int) (d st : Int) (K B0 B1 B2 B3 N : Nat) (w : World) (hC : calOK wk hs = true) (hw : 0 ≤ wk) (hd : inD d) (hst : st = 1 ∨ st = -1) (hN : 1 ≤ N)
    (hK : ∀ j : Nat, j < K → inD (d + j * st)) (hK2 : ¬ inD (d + K * st)) (hA : AtL w 1 ic a hs)
    (h0 : w.heap[B0]? = some (.cells #[.int .u8 wk, .slice a hs.length c] 24 (0, 0))) (h1 : w.heap[B1]? = some (.cells #[.int .i64 d] 3 (0, 0))) (h2 : w.heap[B2]? = some (.cells #[.int .i64 st] 3 (0, 0)))
    (h3 : w.heap[B3]? = some (.cells #[.func (.func 69) #[] #[.pointer (some ⟨B0, 0, none⟩)]] 66 (0, 0))) :
    SeqStopsK Fence.wide N Try.prog 66 #[.pointer (some ⟨B1, 0, none⟩), .pointer (some ⟨B2, 0, none⟩), .pointer (some ⟨B3, 0, none⟩)] encD (KpC [B0, B1, B2, B3])
      (fun ys => ys = bdL wk hs d st K) (fun pre => pre <+: bdL wk hs d st K) K w := fun l J Jx W hW hJ hJx hY hJ0 =>
  days_in wk a c hs d st K B0 B1 B2 B3 l N J Jx W hC hw hd hst hN hK hK2 (hA.below hW) (blk_keep h0 hW) (blk_keep h1 hW) (blk_keep h2 hW) (blk_keep h3 hW) hJ hJx hY hJ0

end Go.Proofs.Ytainmmdlbajpnaa.Sc
