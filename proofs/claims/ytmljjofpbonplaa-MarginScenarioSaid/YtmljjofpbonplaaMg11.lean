/-
  Margin's reference: the walk of novationref36.Portfolio.
-/
import Derived.Test.YtmljjofpbonplaaMg10
import Derived.Test.YtmljjofpbonplaaRn
namespace Go.Proofs.Ytmljjofpbonplaa.Mg
open Go.RowKit Go.Proofs.Ytmljjofpbonplaa Go.Proofs.Ytmljjofpbonplaa.Nm

theorem refName_q (s : ByteArray) (w : World) (b : Bool) (hs : s.size ≤ maxLen) (h : nm s = b) : Calls Try.prog 48 #[.string s] w fun e w' => e = .returned (.bool b) ∧ w' = w := by
  subst h
  exact (refName_any s w hs).mono fun _ _ h => ⟨h.1, h.2.symm⟩

set_option maxRecDepth 100000 in
set_option maxHeartbeats 8000000 in
theorem refPortfolio_any (a : Option Addr) (n cap : Nat) (P : Nat → ByteArray) (Q : Nat → Int) (w : World) (hn2 : n ≤ 9223372036854775807) (hP : ∀ i, (P i).size ≤ maxLen) (hc : PosAt w a n P Q) :
    Calls Try.prog 50 #[.slice a n cap] w fun e w' => e = .returned (.bool (pfB P Q n)) ∧ Below w.heap.size w w' := by
  have HC := Lib.hid hc
  have HP := Lib.hid hP
  clear hc hP
  by_cases h32 : n ≤ 32
  · go_enter Try.func50, Try.ntmps50
    go_wp2_with fail
    go_loopw [3] (fun c wr => ∃ k : Nat, k ≤ n ∧ c = .int .i64 k ∧ Hid (∀ i, i < k → posBad P Q i = false) ∧ Below w.heap.size w wr) (fun c _ => n - (intOf c).toNat)
    case atStart => exact ⟨0, by omega, rfl, Lib.hid (fun i hi => by omega), Below.refl _ _⟩
    case round =>
      obtain ⟨k, hk, rfl, HG, hbw⟩ := hrel
      by_cases hlt : k < n
      · have HC2 := Lib.hid (HC.out.below hbw)
        obtain ⟨b, off, rfl, q0, q1⟩ := HC2.out k hlt
        have q2 := HC2.out.prev k hlt
        rcases hb (nm (P k)) with h1 | h1
        ·
          rcases hb (decide ((0 : Int) < (k : Int))) with h2 | h2
          ·
            rcases hb (Op.bytesLess (P (k - 1)).toList (P k).toList) with h3 | h3
            ·
              rcases hb (Q k == 0) with h4 | h4
              ·
                have HBAD := Lib.hid (pfB_bad P Q n k hlt (by unfold posBad; rw [h1, h2, h3, h4]; rfl))
                have HZ := Lib.hid (HP.out k)
                have hk1 : (0 : Int) < (k : Int) := of_decide_eq_true h2
                have hk0 : decide (0 < k) = true := decide_eq_true (by omega)
                have hk2 : (1 : Int) ≤ (k : Int) := hk1
                have hk3 : (0 : Int) ≤ (k : Int) - 1 := by omega
                have hk4 : (k : Int) - 1 < (n : Int) := by omega
                have hk5 : IntKind.i64.wrap ((k : Int) - 1) = (k : Int) - 1 := IntWalk.i64_in _ (by omega)
                have hk6 : ((k : Int) - 1).toNat = k - 1 := by omega
                go_wp2_with fail
                go_quiet ((go_at_call 48; exact Calls.quiet_of_same (refName_q _ _ _ HZ.out h1)))
                go_wp2
                go_ret
                exact ⟨ret_bool HBAD.out.symm, below_drewN (hbw) _⟩
              ·
                rcases hb (decide (Q k < -1048576)) with h5 | h5
                ·
                  have HBAD := Lib.hid (pfB_bad P Q n k hlt (by unfold posBad; rw [show decide (-1048576 ≤ Q k ∧ Q k ≤ 1048576) = false from decide_eq_false (by have := of_decide_eq_true h5; omega)]; simp))
                  have HZ := Lib.hid (HP.out k)
                  have hk1 : (0 : Int) < (k : Int) := of_decide_eq_true h2
                  have hk0 : decide (0 < k) = true := decide_eq_true (by omega)
                  have hk2 : (1 : Int) ≤ (k : Int) := hk1
                  have hk3 : (0 : Int) ≤ (k : Int) - 1 := by omega
                  have hk4 : (k : Int) - 1 < (n : Int) := by omega
                  have hk5 : IntKind.i64.wrap ((k : Int) - 1) = (k : Int) - 1 := IntWalk.i64_in _ (by omega)
                  have hk6 : ((k : Int) - 1).toNat = k - 1 := by omega
                  go_wp2_with fail
                  go_quiet ((go_at_call 48; exact Calls.quiet_of_same (refName_q _ _ _ HZ.out h1)))
                  go_wp2
                  go_ret
                  exact ⟨ret_bool HBAD.out.symm, below_drewN (hbw) _⟩
                ·
                  rcases hb (decide (1048576 < Q k)) with h6 | h6
                  ·
                    have HBAD := Lib.hid (pfB_bad P Q n k hlt (by unfold posBad; rw [show decide (-1048576 ≤ Q k ∧ Q k ≤ 1048576) = false from decide_eq_false (by have := of_decide_eq_true h6; omega)]; simp))
                    have HZ := Lib.hid (HP.out k)
                    have hk1 : (0 : Int) < (k : Int) := of_decide_eq_true h2
                    have hk0 : decide (0 < k) = true := decide_eq_true (by omega)
                    have hk2 : (1 : Int) ≤ (k : Int) := hk1
                    have hk3 : (0 : Int) ≤ (k : Int) - 1 := by omega
                    have hk4 : (k : Int) - 1 < (n : Int) := by omega
                    have hk5 : IntKind.i64.wrap ((k : Int) - 1) = (k : Int) - 1 := IntWalk.i64_in _ (by omega)
                    have hk6 : ((k : Int) - 1).toNat = k - 1 := by omega
                    go_wp2_with fail
                    go_quiet ((go_at_call 48; exact Calls.quiet_of_same (refName_q _ _ _ HZ.out h1)))
                    go_wp2
                    go_ret
                    exact ⟨ret_bool HBAD.out.symm, below_drewN (hbw) _⟩
                  ·
                    have HG2 := Lib.hid (all_succ HG.out (show posBad P Q k = false by unfold posBad; rw [h1, h2, h3, h4, show decide (-1048576 ≤ Q k ∧ Q k ≤ 1048576) = true from decide_eq_true (by have := of_decide_eq_false h5; have := of_decide_eq_false h6; omega)]; rfl))
                    have HZ := Lib.hid (HP.out k)
                    have hk1 : (0 : Int) < (k : Int) := of_decide_eq_true h2
                    have hk0 : decide (0 < k) = true := decide_eq_true (by omega)
                    have hk2 : (1 : Int) ≤ (k : Int) := hk1
                    have hk3 : (0 : Int) ≤ (k : Int) - 1 := by omega
                    have hk4 : (k : Int) - 1 < (n : Int) := by omega
                    have hk5 : IntKind.i64.wrap ((k : Int) - 1) = (k : Int) - 1 := IntWalk.i64_in _ (by omega)
                    have hk6 : ((k : Int) - 1).toNat = k - 1 := by omega
                    go_wp2_with fail
                    go_quiet ((go_at_call 48; exact Calls.quiet_of_same (refName_q _ _ _ HZ.out h1)))
                    go_wp2
                    go_roundw
                    case rel => exact ⟨k + 1, by omega, by go_num, HG2, below_drewN (hbw) _⟩
                    case measure => simp [intOf]; omega
            ·
              have HBAD := Lib.hid (pfB_bad P Q n k hlt (by unfold posBad; rw [h1, h2, h3]; rfl))
              have HZ := Lib.hid (HP.out k)
              have hk1 : (0 : Int) < (k : Int) := of_decide_eq_true h2
              have hk0 : decide (0 < k) = true := decide_eq_true (by omega)
              have hk2 : (1 : Int) ≤ (k : Int) := hk1
              have hk3 : (0 : Int) ≤ (k : Int) - 1 := by omega
              have hk4 : (k : Int) - 1 < (n : Int) := by omega
              have hk5 : IntKind.i64.wrap ((k : Int) - 1) = (k : Int) - 1 := IntWalk.i64_in _ (by omega)
              have hk6 : ((k : Int) - 1).toNat = k - 1 := by omega
              go_wp2_with fail
              go_quiet ((go_at_call 48; exact Calls.quiet_of_same (refName_q _ _ _ HZ.out h1)))
              go_wp2
              go_ret
              exact ⟨ret_bool HBAD.out.symm, below_drewN (hbw) _⟩
          ·
            rcases hb (Q k == 0) with h4 | h4
            ·
              have HBAD := Lib.hid (pfB_bad P Q n k hlt (by unfold posBad; rw [h1, h2, h4]; rfl))
              have HZ := Lib.hid (HP.out k)
              have hk1 : ¬ (0 : Int) < (k : Int) := of_decide_eq_false h2
              have hk0 : decide (0 < k) = false := decide_eq_false (by omega)
              go_wp2_with fail
              go_quiet ((go_at_call 48; exact Calls.quiet_of_same (refName_q _ _ _ HZ.out h1)))
              go_wp2
              go_ret
              exact ⟨ret_bool HBAD.out.symm, below_drewN (hbw) _⟩
            ·
              rcases hb (decide (Q k < -1048576)) with h5 | h5
              ·
                have HBAD := Lib.hid (pfB_bad P Q n k hlt (by unfold posBad; rw [show decide (-1048576 ≤ Q k ∧ Q k ≤ 1048576) = false from decide_eq_false (by have := of_decide_eq_true h5; omega)]; simp))
                have HZ := Lib.hid (HP.out k)
                have hk1 : ¬ (0 : Int) < (k : Int) := of_decide_eq_false h2
                have hk0 : decide (0 < k) = false := decide_eq_false (by omega)
                go_wp2_with fail
                go_quiet ((go_at_call 48; exact Calls.quiet_of_same (refName_q _ _ _ HZ.out h1)))
                go_wp2
                go_ret
                exact ⟨ret_bool HBAD.out.symm, below_drewN (hbw) _⟩
              ·
                rcases hb (decide (1048576 < Q k)) with h6 | h6
                ·
                  have HBAD := Lib.hid (pfB_bad P Q n k hlt (by unfold posBad; rw [show decide (-1048576 ≤ Q k ∧ Q k ≤ 1048576) = false from decide_eq_false (by have := of_decide_eq_true h6; omega)]; simp))
                  have HZ := Lib.hid (HP.out k)
                  have hk1 : ¬ (0 : Int) < (k : Int) := of_decide_eq_false h2
                  have hk0 : decide (0 < k) = false := decide_eq_false (by omega)
                  go_wp2_with fail
                  go_quiet ((go_at_call 48; exact Calls.quiet_of_same (refName_q _ _ _ HZ.out h1)))
                  go_wp2
                  go_ret
                  exact ⟨ret_bool HBAD.out.symm, below_drewN (hbw) _⟩
                ·
                  have HG2 := Lib.hid (all_succ HG.out (show posBad P Q k = false by unfold posBad; rw [h1, h2, h4, show decide (-1048576 ≤ Q k ∧ Q k ≤ 1048576) = true from decide_eq_true (by have := of_decide_eq_false h5; have := of_decide_eq_false h6; omega)]; rfl))
                  have HZ := Lib.hid (HP.out k)
                  have hk1 : ¬ (0 : Int) < (k : Int) := of_decide_eq_false h2
                  have hk0 : decide (0 < k) = false := decide_eq_false (by omega)
                  go_wp2_with fail
                  go_quiet ((go_at_call 48; exact Calls.quiet_of_same (refName_q _ _ _ HZ.out h1)))
                  go_wp2
                  go_roundw
                  case rel => exact ⟨k + 1, by omega, by go_num, HG2, below_drewN (hbw) _⟩
                  case measure => simp [intOf]; omega
        ·
          have HBAD := Lib.hid (pfB_bad P Q n k hlt (by unfold posBad; rw [h1]; rfl))
          have HZ := Lib.hid (HP.out k)
          go_wp2_with fail
          go_quiet ((go_at_call 48; exact Calls.quiet_of_same (refName_q _ _ _ HZ.out h1)))
          go_wp2
          go_ret
          exact ⟨ret_bool HBAD.out.symm, below_drewN (hbw) _⟩
      · have HGOOD := Lib.hid (pfB_good P Q n h32 (fun i hi => HG.out i (by omega)))
        go_wp2
        go_ret
        exact ⟨ret_bool HGOOD.out.symm, hbw⟩
  · have HBAD := Lib.hid (show pfB P Q n = false by unfold pfB; rw [decide_eq_false h32, Bool.false_and])
    go_enter Try.func50, Try.ntmps50
    go_wp2
    go_ret
    exact ⟨ret_bool HBAD.out.symm, Below.refl _ _⟩
end Go.Proofs.Ytmljjofpbonplaa.Mg
