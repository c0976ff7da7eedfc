/-
  The walks of package date's small functions: Leap, lengths, known, leaps, first, Length.
-/
import Derived.Test.YtainmmdlbajpnaaProg
import Derived.Test.YtainmmdlbajpnaaDatePlain
import Derived.WalkKit
import Derived.WalkSpells
import Derived.WalkLawsBesides
import Derived.Lib.Hide
namespace Go.Proofs.Ytainmmdlbajpnaa.Dt
open Go.RowKit Go.Proofs.Ytainmmdlbajpnaa

theorem ret_int {k : IntKind} {a b : Int} (h : a = b) : Ending.returned (.int k a) = .returned (.int k b) := by rw [h]
theorem ret_bool {a b : Bool} (h : a = b) : Ending.returned (.bool a) = .returned (.bool b) := by rw [h]

/-- old cells and old marks read as before -/
theorem bcell {W w1 : World} (hb : Below W.heap.size W w1) : (∀ b o, b < W.heap.size → w1.cell? ⟨b, o, none⟩ = W.cell? ⟨b, o, none⟩) ∧ (∀ b o, b < W.heap.size → w1.frozen? ⟨b, o, none⟩ = W.frozen? ⟨b, o, none⟩) :=
  ⟨fun b o h => hb.cell (p := ⟨b, o, none⟩) h, fun b o h => hb.frozen (p := ⟨b, o, none⟩) h⟩

theorem tmod_zero (y k : Int) : (Int.tmod y k == 0) = (y % k == 0) := by
  rw [Bool.eq_iff_iff, beq_iff_eq, beq_iff_eq, ← Int.dvd_iff_tmod_eq_zero, ← Int.dvd_iff_emod_eq_zero]

theorem tmod_ne {y k : Int} (h : ¬ Int.tmod y k = 0) : ¬ y % k = 0 := fun g => h (Int.dvd_iff_tmod_eq_zero.1 (Int.dvd_iff_emod_eq_zero.2 g))
theorem tmod_eq {y k : Int} (h : Int.tmod y k = 0) : y % k = 0 := Int.dvd_iff_emod_eq_zero.1 (Int.dvd_iff_tmod_eq_zero.2 h)

set_option maxHeartbeats 400000 in
theorem leap_any (y : Int) (w : World) :
    Calls Try.prog 49 #[.int .i64 y] w fun e w' => e = .returned (.bool (leap y)) ∧ w = w' := by
  by_cases h4 : Int.tmod y 4 = 0
  · by_cases h100 : Int.tmod y 100 = 0
    · have k : leap y = (Int.tmod y 400 == 0) := by rw [tmod_zero]; simp [leap, tmod_eq h4, tmod_eq h100]
      go_enter Try.func49, Try.ntmps49
      rw [k]
      clear k
      go_wp2
      go_ret
      exact ⟨rfl, rfl⟩
    · have k : leap y = true := by simp [leap, tmod_eq h4, tmod_ne h100]
      go_enter Try.func49, Try.ntmps49
      rw [k]
      clear k
      go_wp2
      go_ret
      exact ⟨rfl, rfl⟩
  · have k : leap y = false := by simp [leap, tmod_ne h4]
    go_enter Try.func49, Try.ntmps49
    rw [k]
    clear k
    go_wp2
    go_ret
    exact ⟨rfl, rfl⟩

set_option maxHeartbeats 400000 in
theorem leaps_any (y : Int) (w : World) (h0 : 0 ≤ y) (h1 : y ≤ 10000) :
    Calls Try.prog 58 #[.int .i64 y] w fun e w' => e = .returned (.int .i64 (leaps y)) ∧ w = w' := by
  go_enter Try.func58, Try.ntmps58
  go_wp2
  go_ret
  exact ⟨ret_int (by simp [leaps]), rfl⟩

theorem leaps_bd (y : Int) (h0 : 1800 ≤ y) (h1 : y ≤ 2174) : 0 ≤ leaps y ∧ leaps y ≤ 10000 := by unfold leaps; omega

set_option maxHeartbeats 400000 in
theorem first_any (y : Int) (w : World) (h0 : 1900 ≤ y) (h1 : y ≤ 2174) :
    Calls Try.prog 48 #[.int .i64 y] w fun e w' => e = .returned (.int .i64 (first y)) ∧ w = w' := by
  have hb := leaps_bd (y - 1) (by omega) (by omega)
  go_enter Try.func48, Try.ntmps48
  go_wp2_with fail
  refine (leaps_any (y - 1) _ (by omega) (by omega)).mono ?_
  rintro e w' ⟨rfl, rfl⟩
  go_wp2_with fail
  refine (leaps_any 1899 _ (by omega) (by omega)).mono ?_
  rintro e w' ⟨rfl, rfl⟩
  have h2 : leaps 1899 = 460 := by decide
  rw [h2]
  clear h2
  go_wp2
  go_ret
  exact ⟨ret_int (by unfold first; omega), rfl⟩

set_option maxHeartbeats 400000 in
theorem known_any (y : Int) (w : World) :
    Calls Try.prog 59 #[.int .i64 y] w fun e w' => e = .returned (.bool (decide (1900 ≤ y ∧ y ≤ 2173))) ∧ w = w' := by
  by_cases h : 1900 ≤ y
  all_goals
    go_enter Try.func59, Try.ntmps59
    go_wp2
    go_ret
    exact ⟨ret_bool (by simp; omega), rfl⟩

set_option maxHeartbeats 400000 in
theorem lengths_any (y : Int) (w : World) :
    Calls Try.prog 30 #[.int .i64 y] w fun e w' =>
      e = .returned (.agg #[.int .i64 0, .int .i64 31, .int .i64 (feb y), .int .i64 31, .int .i64 30, .int .i64 31, .int .i64 30, .int .i64 31, .int .i64 31, .int .i64 30, .int .i64 31, .int .i64 30, .int .i64 31]) ∧ Below w.heap.size w w' := by
  rcases feb_cases y with ⟨h, h2⟩ | ⟨h, h2⟩
  all_goals
    rw [h]
    clear h
    go_enter Try.func30, Try.ntmps30
    go_wp2_with fail
    refine (leap_any y _).mono ?_
    rintro e w' ⟨rfl, rfl⟩
    rw [h2]
    clear h2
    go_wp2
    refine bodyPost_ret (v := .agg #[.int .i64 0, .int .i64 31, .int .i64 _, .int .i64 31, .int .i64 30, .int .i64 31, .int .i64 30, .int .i64 31, .int .i64 31, .int .i64 30, .int .i64 31, .int .i64 30, .int .i64 31]) (by simp [results, Try.results30, go_sem]) rfl ⟨rfl, ?_⟩
    exact ((Below.refl _ _).alloc (Nat.le_refl _) _).alloc (by simp) _

/-- the row of the lengths of the months of a year -/
theorem index_len (y m : Int) (h1 : 1 ≤ m) (h2 : m ≤ 12) (w : World) :
    (Instr.index 61 (.agg #[.int .i64 0, .int .i64 31, .int .i64 (feb y), .int .i64 31, .int .i64 30, .int .i64 31, .int .i64 30, .int .i64 31, .int .i64 31, .int .i64 30, .int .i64 31, .int .i64 30, .int .i64 31]) (.int .i64 m)).run Try.prog w = .ok (.int .i64 (mlen y m)) w := by
  rcases month_cases h1 h2 with rfl | rfl | rfl | rfl | rfl | rfl | rfl | rfl | rfl | rfl | rfl | rfl
  all_goals (simp only [mlen]; kernel_rfl)

theorem length_yes (y m : Int) (w : World) (h0 : 1900 ≤ y) (h1 : y ≤ 2173) (h2 : 1 ≤ m) (h3 : m ≤ 12) :
    Calls Try.prog 50 #[.int .i64 y, .int .i64 m] w fun e w' => e = .returned (.tuple #[.int .i64 (mlen y m), .int .i64 0]) ∧ Below w.heap.size w w' := by
  have hk : decide (1900 ≤ y ∧ y ≤ 2173) = true := by simp; omega
  have hix := index_len y m h2 h3
  go_enter Try.func50, Try.ntmps50
  go_wp2_with fail
  refine (known_any y _).mono ?_
  rintro e w' ⟨rfl, rfl⟩
  rw [hk]
  clear hk
  go_wp2_with fail
  refine (lengths_any y _).mono ?_
  rintro e w1 ⟨rfl, hb⟩
  go_wp2
  go_ret2
  exact ⟨rfl, hb⟩

theorem length_no (y m : Int) (w : World) (h : ¬ (1900 ≤ y ∧ y ≤ 2173 ∧ 1 ≤ m ∧ m ≤ 12)) :
    Calls Try.prog 50 #[.int .i64 y, .int .i64 m] w fun e w' => e = .returned (.tuple #[.int .i64 0, .int .i64 2]) ∧ w = w' := by
  by_cases hy : 1900 ≤ y ∧ y ≤ 2173
  · have hk : decide (1900 ≤ y ∧ y ≤ 2173) = true := by simp; omega
    by_cases hm : m < 1
    all_goals
      have hm2 : m < 1 ∨ 12 < m := by omega
      have H := Lib.hid h
      have H2 := Lib.hid hy
      clear h hy
      go_enter Try.func50, Try.ntmps50
      go_wp2_with fail
      refine (known_any y _).mono ?_
      rintro e w' ⟨rfl, rfl⟩
      rw [hk]
      clear hk
      go_wp2
      go_ret2
      exact ⟨rfl, rfl⟩
  · have hk : decide (1900 ≤ y ∧ y ≤ 2173) = false := by simp; omega
    have H := Lib.hid h
    have H2 := Lib.hid hy
    clear h hy
    go_enter Try.func50, Try.ntmps50
    go_wp2_with fail
    refine (known_any y _).mono ?_
    rintro e w' ⟨rfl, rfl⟩
    rw [hk]
    clear hk
    go_wp2
    go_ret2
    exact ⟨rfl, rfl⟩
end Go.Proofs.Ytainmmdlbajpnaa.Dt
