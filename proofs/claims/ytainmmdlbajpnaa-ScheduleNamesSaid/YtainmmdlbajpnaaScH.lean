/-
  The walks of SameInts, Great, gives, two, alive of the layer's laws.
-/
import Derived.Test.YtainmmdlbajpnaaScG
import Derived.BigQuiet
namespace Go.Proofs.Ytainmmdlbajpnaa.Sc
open Go.RowKit Go.Proofs.Ytainmmdlbajpnaa Go.Proofs.Ytainmmdlbajpnaa.Ls Go.Proofs.Ytainmmdlbajpnaa.Kb
open Go.Proofs.Ytainmmdlbajpnaa.Dt hiding ret_bool ret_int

theorem below_drewN {B : Nat} {a w : World} (h : Below B a w) (n : Nat) : Below B a (w.drewN n) := h.trans ⟨rfl, rfl, rfl, Nat.le_refl _, fun _ _ => rfl⟩

set_option maxRecDepth 100000 in
set_option maxHeartbeats 2000000 in
theorem same_any (a b : Option Addr) (c d n m : Nat) (xs ys : List Int) (w : World) (hn : xs.length = n) (hm : ys.length = m) (hx : n ≤ maxLen) (hA : AtL w 1 ic a xs) (hB : AtL w 1 ic b ys) :
    Calls Try.prog 14 #[.slice a n c, .slice b m d] w fun e w' => e = .returned (.bool (decide (xs = ys))) ∧ Below w.heap.size w w' := by
  subst hn
  subst hm
  unfold maxLen at hx
  have HA := Lib.hid hA
  have HB := Lib.hid hB
  clear hA hB
  by_cases hl : xs.length = ys.length
  · have HL := Lib.hid hl
    rw [← hl]
    clear hl
    go_enter Try.func14, Try.ntmps14
    go_wp2_with fail
    go_loopw [5] (fun i wr => ∃ k : Nat, k ≤ xs.length ∧ i = .int .i64 k ∧ Hid (xs.take k = ys.take k) ∧ Below w.heap.size w wr) (fun i _ => xs.length - (intOf i).toNat)
    case atStart => exact ⟨0, by omega, rfl, rfl, Below.refl _ _⟩
    case round =>
      obtain ⟨k, hk, rfl, HT, hbw⟩ := hrel
      by_cases hlt : k < xs.length
      · have hlt2 : k < ys.length := by rw [← HL.out]; exact hlt
        obtain ⟨bx, ox, rfl, q0x⟩ := at_int (HA.out.below hbw) k hlt
        obtain ⟨b_, oy, rfl, q0y⟩ := at_int (HB.out.below hbw) k hlt2
        have HTX := Lib.hid (show xs.take (k + 1) = xs.take k ++ [xs.getD k 0] by rw [List.take_succ_eq_append_getElem hlt, List.getD_eq_getElem?_getD, List.getElem?_eq_getElem hlt]; rfl)
        have HTY := Lib.hid (show ys.take (k + 1) = ys.take k ++ [ys.getD k 0] by rw [List.take_succ_eq_append_getElem hlt2, List.getD_eq_getElem?_getD, List.getElem?_eq_getElem hlt2]; rfl)
        have HNE := Lib.hid (show xs.getD k 0 ≠ ys.getD k 0 → xs ≠ ys from fun h e => h (by subst e; rfl))
        generalize xs.getD k 0 = x at *
        generalize ys.getD k 0 = y at *
        clear hlt2
        have k1 : (k : Int) < xs.length := by omega
        by_cases hxy : x = y
        · have HT2 : Hid (xs.take (k + 1) = ys.take (k + 1)) := by unfold Hid; rw [HTX.out, HTY.out, HT.out, hxy]
          subst hxy
          clear HTX HTY HNE
          go_wp2_with fail
          go_quiet (fail)
          go_wp2
          go_roundw
          case rel => exact ⟨k + 1, by omega, by go_num, HT2, below_drewN hbw _⟩
          case measure => simp [intOf]; omega
        · have HE : Hid (decide (xs = ys) = false) := decide_eq_false (HNE.out hxy)
          clear HTX HTY HNE
          go_wp2_with fail
          go_quiet (fail)
          go_wp2
          go_ret
          exact ⟨ret_bool HE.out.symm, below_drewN hbw _⟩
      · have HE : Hid (decide (xs = ys) = true) := by
          have := HT.out
          rw [List.take_of_length_le (by omega), List.take_of_length_le (by rw [← HL.out]; omega)] at this
          exact decide_eq_true this
        go_wp2
        go_ret
        exact ⟨ret_bool HE.out.symm, hbw⟩
  · have HE := Lib.hid (show decide (xs = ys) = false from decide_eq_false (fun e => hl (by rw [e])))
    have hl2 : ((xs.length : Int) != ys.length) = true := by rw [bne_iff_ne]; omega
    go_enter Try.func14, Try.ntmps14
    go_wp2
    go_ret
    exact ⟨ret_bool HE.out.symm, Below.refl _ _⟩

/-- is a calendar larger than considered? -/
def greatB (n : Nat) : Bool := decide (1100 < n) || (decide (100 < n) && decide (n ≤ 1000))
set_option maxHeartbeats 1000000 in
theorem great_any (wk : Int) (a : Option Addr) (n c : Nat) (w : World) (hn : n ≤ maxLen) :
    Calls Try.prog 11 #[.agg #[.int .u8 wk, .slice a n c]] w fun e w' => e = .returned (.bool (greatB n)) ∧ Below w.heap.size w w' := by
  unfold maxLen at hn
  have hbo : Below w.heap.size w (w.alloc (.cells #[.int .u8 wk, .slice a n c] 24)) := (Below.refl _ _).alloc (Nat.le_refl _) _
  have HG := Lib.hid (show greatB n = (decide (1100 < n) || (decide (100 < n) && decide (n ≤ 1000))) from rfl)
  generalize greatB n = gb at HG ⊢
  go_enter Try.func11, Try.ntmps11
  go_wp2
  all_goals
    go_ret
    refine ⟨ret_bool ?_, hbo⟩
    rw [HG.out, Bool.eq_iff_iff]
    simp only [Bool.or_eq_true, Bool.and_eq_true, decide_eq_true_eq, true_iff]
    omega

/-- a block of numbers is a slice -/
theorem atl_block {w : World} {b : Nat} {cs : Array Value} {t : TypeId} (xs : List Int) (h : w.heap[b]? = some (.cells cs t (0, 0))) (hc : cs.toList = xs.map (Value.int .i64)) : AtL w 1 ic (some ⟨b, 0, none⟩) xs := fun i x hx => ⟨b, 0, rfl, fun j u hu => by
  have hj : j = 0 ∧ u = .int .i64 x := by
    cases j with
    | zero => exact ⟨rfl, by simpa [ic] using hu.symm⟩
    | succ j => simp [ic] at hu
  obtain ⟨rfl, rfl⟩ := hj
  have h1 : cs[i]? = some (.int .i64 x) := by
    rw [← Array.getElem?_toList, hc, List.getElem?_map, hx]
    rfl
  have := cell_of h i _ h1
  simpa using this⟩

set_option maxRecDepth 100000 in
set_option maxHeartbeats 1000000 in
theorem gives_any (s : Sch) (L X : List Int) (g : Int) (a : Option Addr) (n c : Nat) (w : World) (hS : SchAt w s) (hR : DRes s L g) (hn : X.length = n) (hA : AtL w 1 ic a X) :
    Calls Try.prog 24 #[.agg s.cells, .slice a n c] w fun e w' => e = .returned (.bool (decide (g = 0) && decide (L = X))) ∧ Below w.heap.size w w' := by
  have HL : Hid (L.length ≤ 100) := by
    unfold Hid
    rcases hR with ⟨_, rfl, _⟩ | ⟨y, m, d, N, _, ⟨h, rfl, _⟩ | ⟨_, rfl, _⟩⟩
    · simp
    · unfold dL
      rw [len_datesL]
      exact h
    · simp
  have HS := Lib.hid hS
  have HA := Lib.hid hA
  have HD := Lib.hid (fun (w' : World) (h : SchAt w' s) => dates_any s L g w' h hR)
  clear hS hA hR
  obtain ⟨S, E, Mo, back, last, stub, roll, wk, sa, sc', hs⟩ := s
  simp only [Sch.cells] at *
  have hbo : Below w.heap.size w (w.alloc (.cells #[.int .i64 S, .int .i64 E, .int .i64 Mo, .bool back, .bool last, .int .u8 stub, .int .u8 roll, .int .u8 wk, .slice sa hs.length sc'] 26)) := (Below.refl _ _).alloc (Nat.le_refl _) _
  go_enter Try.func24, Try.ntmps24
  go_wp2_with fail
  generalize w.alloc _ = wo at hbo ⊢
  refine (HD.out wo (HS.out.below hbo)).mono ?_
  rintro e w1 ⟨da, dc, rfl, ho, hb1⟩
  have c1 := bt hbo hb1 (Nat.le_refl _)
  have HO := Lib.hid ho
  clear ho hb1
  by_cases hg : g = 0
  · have HG := Lib.hid hg
    have hg2 : (g == 0) = true := by rw [hg]; rfl
    subst hg
    go_wp2_with fail
    refine (same_any da a dc c _ n L X w1 rfl hn (by have := HL.out; unfold maxLen; omega) (HO.out.sl ic_len).1 (HA.out.below c1)).mono ?_
    rintro e w2 ⟨rfl, hb2⟩
    have c2 := bt c1 hb2 (Nat.le_refl _)
    go_wp2
    go_ret
    exact ⟨ret_bool (by simp), c2⟩
  · have hg2 : (g == 0) = false := by rw [beq_eq_false_iff_ne]; exact hg
    go_wp2
    go_ret
    exact ⟨ret_bool (by simp [hg]), c1⟩

set_option maxRecDepth 100000 in
theorem two_any (w : World) :
    Calls Try.prog 25 #[] w fun e w' => e = .returned (.agg #[.int .i64 45304, .int .i64 45472, .int .i64 2, .bool false, .bool false, .int .u8 0, .int .u8 0, .int .u8 0, .slice none 0 0]) ∧ Below w.heap.size w w' := by
  go_enter Try.func25, Try.ntmps25
  go_wp2
  exact bodyPost_ret (v := .agg #[.int .i64 45304, .int .i64 45472, .int .i64 2, .bool false, .bool false, .int .u8 0, .int .u8 0, .int .u8 0, .slice none 0 0]) (by simp [results, Try.results25, go_sem]) rfl ⟨rfl, (Below.refl _ _).alloc (Nat.le_refl _) _⟩

end Go.Proofs.Ytainmmdlbajpnaa.Sc
