/-
  The reference's calendar: the walk of Valid.
-/
import Derived.Test.YtainmmdlbajpnaaScB
import Derived.Test.YtainmmdlbajpnaaDateR3
import Derived.BigQuiet
namespace Go.Proofs.Ytainmmdlbajpnaa.Sc
open Go.RowKit Go.Proofs.Ytainmmdlbajpnaa Go.Proofs.Ytainmmdlbajpnaa.Ls Go.Proofs.Ytainmmdlbajpnaa.Kb
open Go.Proofs.Ytainmmdlbajpnaa.Dt hiding ret_bool ret_int

theorem below_drewV {B : Nat} {a w : World} (h : Below B a w) (n : Nat) : Below B a (w.drewN n) := h.trans ⟨rfl, rfl, rfl, Nat.le_refl _, fun _ _ => rfl⟩
theorem rday_any (n : Int) (b : Bool) (hb : (decide (0 ≤ n) && decide (n ≤ 99999)) = b) (w : World) :
    Calls Try.prog 33 #[.int .i64 n] w fun e w' => e = .returned (.bool b) ∧ w = w' := by
  subst hb
  by_cases h : 0 ≤ n ∧ n ≤ 99999
  · rw [decide_eq_true h.1, decide_eq_true h.2]
    exact rday_yes n w h.1 h.2
  · have : (decide (0 ≤ n) && decide (n ≤ 99999)) = false := by
      rw [Bool.and_eq_false_iff, decide_eq_false_iff_not, decide_eq_false_iff_not]
      omega
    rw [this]
    exact rday_no n w (by omega)

theorem rday_q (n : Int) (b : Bool) (hb : (decide (0 ≤ n) && decide (n ≤ 99999)) = b) (w : World) :
    Calls Try.prog 33 #[.int .i64 n] w fun e w' => e = .returned (.bool b) ∧ w' = w := (rday_any n b hb w).mono (fun _ _ h => ⟨h.1, h.2.symm⟩)

set_option maxRecDepth 100000 in
set_option maxHeartbeats 1000000 in
theorem rcal_any (wk : Int) (a : Option Addr) (c : Nat) (hs : List Int) (w : World) (hL : hs.length ≤ maxLen) (hA : AtL w 1 ic a hs) :
    Calls Try.prog 39 #[.agg #[.int .u8 wk, .slice a hs.length c]] w fun e w' => e = .returned (.bool (calOK wk hs)) ∧ Below w.heap.size w w' := by
  have HA := Lib.hid hA
  clear hA
  unfold maxLen at hL
  go_enter Try.func39, Try.ntmps39
  have hx := blk_new w (.cells #[.int .u8 wk, .slice a hs.length c] 24)
  have hbo : Below w.heap.size w (w.alloc (.cells #[.int .u8 wk, .slice a hs.length c] 24)) := (Below.refl _ _).alloc (Nat.le_refl _) _
  by_cases hB : 126 < wk ∨ 1000 < (hs.length : Int)
  · have HN := Lib.hid (cal_no (wk := wk) (hs := hs) (by omega))
    go_wp2
    all_goals first
      | exact absurd hB (by omega)
      | (go_ret
         refine ⟨ret_bool ?_, hbo⟩
         rw [HN.out])
  · have h1 : wk ≤ 126 := by omega
    have h2 : (hs.length : Int) ≤ 1000 := by omega
    clear hB
    go_wp2_with fail
    clear hx
    go_loopw [3] (fun c' wr => ∃ k : Nat, k ≤ hs.length ∧ c' = .int .i64 k ∧ Hid (∀ i, i < k → dayOK hs i = true) ∧ Below w.heap.size w wr ∧ Hid (wr.heap[w.heap.size]? = some (.cells #[.int .u8 wk, .slice a hs.length c] 24 (0, 0))))
      (fun c' _ => hs.length - (intOf c').toNat)
    case atStart => exact ⟨0, by omega, rfl, fun i hi => by omega, hbo, blk_new _ _⟩
    case round =>
      obtain ⟨k, hk, rfl, HK, hbr, HX⟩ := hrel
      have x1 := cell_of HX.out 1 _ rfl
      rcases Nat.lt_or_ge k hs.length with g | g
      · obtain ⟨b, off, rfl, q⟩ := at_int (HA.out.below hbr) k g
        have hg : (k : Int) < hs.length := by omega
        have hp : 0 < k → wr.cell? ⟨b, off + (k - 1), none⟩ = some (.int .i64 (hs.getD (k - 1) 0)) := fun h => at_int' (HA.out.below hbr) (k - 1) (by omega)
        have HD := Lib.hid (show dayOK hs k = (decide (0 ≤ hs.getD k 0) && (decide (hs.getD k 0 ≤ 99999) && (decide (k = 0) || decide (hs.getD (k - 1) 0 < hs.getD k 0)))) from rfl)
        generalize hs.getD k 0 = X at q HD
        generalize hs.getD (k - 1) 0 = Y at hp HD
        rcases hb (decide (0 ≤ X) && decide (X ≤ 99999)) with hI | hI
        · have HI := Lib.hid hI
          have HJ := Lib.hid (show 0 ≤ X ∧ X ≤ 99999 by rw [Bool.and_eq_true, decide_eq_true_eq, decide_eq_true_eq] at hI; exact hI)
          clear hI
          rcases Nat.eq_zero_or_pos k with k0 | k0
          · subst k0
            clear hp
            rw [Nat.add_zero] at q
            go_wp2_with fail
            go_quiet ((go_at_call 33; exact Calls.quiet_of_same (rday_q _ _ HI.out _)))
            go_wp2
            go_roundw
            case rel =>
              refine ⟨1, by omega, by go_num, fun i hi => ?_, below_drewV hbr _, HX⟩
              obtain rfl : i = 0 := by omega
              rw [HD.out]
              simp [HJ.out.1, HJ.out.2]
            case measure => simp [intOf]; omega
          · have hk0 : (0 : Int) < k := by omega
            have hp := hp k0
            have hk1 : ((k - 1 : Nat) : Int) = (k : Int) - 1 := by omega
            have hk2 : IntKind.i64.wrap ((k : Int) - 1) = (k : Int) - 1 := by rw [IntKind.wrap_i64]; omega
            have hk3 : (1 : Int) ≤ k := by omega
            have hk4 : (k : Int) ≤ hs.length := by omega
            have hk5 : ((k : Int) - 1).toNat = k - 1 := by omega
            by_cases hXY : X ≤ Y
            · go_wp2_with fail
              go_quiet ((go_at_call 33; exact Calls.quiet_of_same (rday_q _ _ HI.out _)))
              go_wp2
              go_ret
              refine ⟨ret_bool ?_, below_drewV hbr _⟩
              rw [cal_bad k g (by rw [HD.out, decide_eq_false (p := k = 0) (by omega), decide_eq_false (p := Y < X) (by omega)]; simp)]
            · go_wp2_with fail
              go_quiet ((go_at_call 33; exact Calls.quiet_of_same (rday_q _ _ HI.out _)))
              go_wp2
              go_roundw
              case rel =>
                refine ⟨k + 1, by omega, by go_num, fun i hi => ?_, below_drewV hbr _, HX⟩
                rcases Nat.lt_or_ge i k with hik | hik
                · exact HK.out i hik
                · obtain rfl : i = k := by omega
                  rw [HD.out]
                  simp [HJ.out.1, HJ.out.2]
                  omega
              case measure => simp [intOf]; omega
        · have HI := Lib.hid hI
          have HJ := Lib.hid (show dayOK hs k = false by rw [HD.out, ← Bool.and_assoc, hI, Bool.false_and])
          clear hI hp
          go_wp2_with fail
          go_quiet ((go_at_call 33; exact Calls.quiet_of_same (rday_q _ _ HI.out _)))
          go_wp2
          go_ret
          refine ⟨ret_bool ?_, below_drewV hbr _⟩
          rw [cal_bad k g HJ.out]
      · obtain rfl : k = hs.length := by omega
        go_wp2
        go_ret
        refine ⟨ret_bool ?_, hbr⟩
        rw [cal_yes (by omega) (by omega) HK.out]

end Go.Proofs.Ytainmmdlbajpnaa.Sc
