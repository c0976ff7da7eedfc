/-
  The walks of the date reference: In, Day, Leap, long, Length, Of, Parts, Weekday.
-/
import Derived.Test.YtainmmdlbajpnaaDateW3
namespace Go.Proofs.Ytainmmdlbajpnaa.Dt
open Go.RowKit Go.Proofs.Ytainmmdlbajpnaa

set_option maxHeartbeats 400000 in
theorem rin_yes (n a b : Int) (w : World) (h1 : a ≤ n) (h2 : n ≤ b) :
    Calls Try.prog 40 #[.int .i64 n, .int .i64 a, .int .i64 b] w fun e w' => e = .returned (.bool true) ∧ w = w' := by
  have h3 : decide (n ≤ b) = true := by simpa using h2
  go_enter Try.func40, Try.ntmps40
  go_wp2
  go_ret
  exact ⟨rfl, rfl⟩

set_option maxHeartbeats 400000 in
theorem rin_no (n a b : Int) (w : World) (h : n < a ∨ b < n) :
    Calls Try.prog 40 #[.int .i64 n, .int .i64 a, .int .i64 b] w fun e w' => e = .returned (.bool false) ∧ w = w' := by
  by_cases h1 : a ≤ n
  · have h2 : b < n := by omega
    clear h
    go_enter Try.func40, Try.ntmps40
    go_wp2
    go_ret
    exact ⟨ret_bool (by simpa using h2), rfl⟩
  · clear h
    go_enter Try.func40, Try.ntmps40
    go_wp2
    go_ret
    exact ⟨rfl, rfl⟩

set_option maxHeartbeats 400000 in
theorem rday_yes (n : Int) (w : World) (h1 : 0 ≤ n) (h2 : n ≤ 99999) :
    Calls Try.prog 33 #[.int .i64 n] w fun e w' => e = .returned (.bool true) ∧ w = w' := by
  go_enter Try.func33, Try.ntmps33
  go_wp2_with fail
  refine (rin_yes _ _ _ _ h1 h2).mono ?_
  rintro e w' ⟨rfl, rfl⟩
  go_wp2
  go_ret
  exact ⟨rfl, rfl⟩

set_option maxHeartbeats 400000 in
theorem rday_no (n : Int) (w : World) (h : n < 0 ∨ 99999 < n) :
    Calls Try.prog 33 #[.int .i64 n] w fun e w' => e = .returned (.bool false) ∧ w = w' := by
  have H := Lib.hid h
  clear h
  go_enter Try.func33, Try.ntmps33
  go_wp2_with fail
  refine (rin_no _ _ _ _ H.out).mono ?_
  rintro e w' ⟨rfl, rfl⟩
  go_wp2
  go_ret
  exact ⟨rfl, rfl⟩

set_option maxHeartbeats 400000 in
theorem rleap_any (y : Int) (w : World) :
    Calls Try.prog 67 #[.int .i64 y] w fun e w' => e = .returned (.bool (leap y)) ∧ w = w' := by
  by_cases h400 : Int.tmod y 400 = 0
  · have k : leap y = true := by
      have := tmod_eq h400
      rw [leap_iff]
      omega
    go_enter Try.func67, Try.ntmps67
    rw [k]
    clear k
    go_wp2
    go_ret
    exact ⟨rfl, rfl⟩
  · by_cases h100 : Int.tmod y 100 = 0
    · have k : leap y = false := by
        have := tmod_eq h100
        have := tmod_ne h400
        rw [Bool.eq_false_iff]
        rw [ne_eq, leap_iff]
        omega
      go_enter Try.func67, Try.ntmps67
      rw [k]
      clear k
      go_wp2
      go_ret
      exact ⟨rfl, rfl⟩
    · have k : leap y = (Int.tmod y 4 == 0) := by
        have := tmod_ne h100
        rw [tmod_zero]
        simp [leap, this]
      go_enter Try.func67, Try.ntmps67
      rw [k]
      clear k
      go_wp2
      go_ret
      exact ⟨rfl, rfl⟩

set_option maxHeartbeats 1000000 in
theorem rlong_any (y m : Int) (w : World) (h2 : 1 ≤ m) (h3 : m ≤ 12) :
    Calls Try.prog 62 #[.int .i64 y, .int .i64 m] w fun e w' => e = .returned (.int .i64 (mlen y m)) ∧ w = w' := by
  rcases month_cases h2 h3 with rfl | rfl | rfl | rfl | rfl | rfl | rfl | rfl | rfl | rfl | rfl | rfl
  case inr.inl =>
    have e2 : mlen y 2 = feb y := by simp [mlen]
    rw [e2]
    clear e2
    rcases feb_cases y with ⟨g1, g2⟩ | ⟨g1, g2⟩
    all_goals
      rw [g1]
      clear g1
      go_enter Try.func62, Try.ntmps62
      go_wp2_with fail
      refine (rleap_any _ _).mono ?_
      rintro e w' ⟨rfl, rfl⟩
      rw [g2]
      clear g2
      go_wp2
      go_ret
      exact ⟨rfl, rfl⟩
  all_goals
    simp only [mlen]
    go_enter Try.func62, Try.ntmps62
    go_wp2
    go_ret
    exact ⟨rfl, rfl⟩

end Go.Proofs.Ytainmmdlbajpnaa.Dt
