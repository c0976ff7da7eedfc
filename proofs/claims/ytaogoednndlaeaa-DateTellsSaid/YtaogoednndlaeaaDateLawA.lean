/-
  The walk of the law DateTells.
-/
import Derived.Test.YtaogoednndlaeaaDateR2
namespace Go.Proofs.Ytaogoednndlaeaa.Dt
open Go.RowKit Go.Proofs.Ytaogoednndlaeaa

/-- Parts, of the program and of the reference, at any number: the same four numbers -/
theorem parts_uni (n : Int) : ∃ a b c g : Int,
    (∀ w : World, Calls Try.prog 14 #[.int .i64 n] w fun e w' => e = .returned (.tuple #[.int .i64 a, .int .i64 b, .int .i64 c, .int .i64 g]) ∧ Below w.heap.size w w') ∧
    (∀ w : World, Calls Try.prog 15 #[.int .i64 n] w fun e w' => e = .returned (.tuple #[.int .i64 a, .int .i64 b, .int .i64 c, .int .i64 g]) ∧ w = w') := by
  by_cases h : n < 0 ∨ 99999 < n
  · refine ⟨0, 0, 0, 2, fun w => ?_, fun w => rparts_no n w h⟩
    refine (parts_no n w h).mono ?_
    rintro e w' ⟨rfl, rfl⟩
    exact ⟨rfl, Below.refl _ _⟩
  · obtain ⟨y, m, d, hD⟩ := date_exists n (by omega) (by omega)
    exact ⟨y, m, d, 0, fun w => parts_yes y m d n w hD (by omega), fun w => rparts_yes y m d n w hD (by omega)⟩

theorem length_uni (y m : Int) : ∃ a g : Int,
    (∀ w : World, Calls Try.prog 18 #[.int .i64 y, .int .i64 m] w fun e w' => e = .returned (.tuple #[.int .i64 a, .int .i64 g]) ∧ Below w.heap.size w w') ∧
    (∀ w : World, Calls Try.prog 19 #[.int .i64 y, .int .i64 m] w fun e w' => e = .returned (.tuple #[.int .i64 a, .int .i64 g]) ∧ w = w') := by
  by_cases h : 1900 ≤ y ∧ y ≤ 2173 ∧ 1 ≤ m ∧ m ≤ 12
  · obtain ⟨h0, h1, h2, h3⟩ := h
    exact ⟨mlen y m, 0, fun w => length_yes y m w h0 h1 h2 h3, fun w => rlength_yes y m w h0 h1 h2 h3⟩
  · refine ⟨0, 2, fun w => ?_, fun w => rlength_no y m w h⟩
    refine (length_no y m w h).mono ?_
    rintro e w' ⟨rfl, rfl⟩
    exact ⟨rfl, Below.refl _ _⟩

theorem weekday_uni (n : Int) : ∃ a g : Int,
    (∀ w : World, Calls Try.prog 16 #[.int .i64 n] w fun e w' => e = .returned (.tuple #[.int .i64 a, .int .i64 g]) ∧ w = w') ∧
    (∀ w : World, Calls Try.prog 17 #[.int .i64 n] w fun e w' => e = .returned (.tuple #[.int .i64 a, .int .i64 g]) ∧ w = w') := by
  by_cases h : n < 0 ∨ 99999 < n
  · exact ⟨0, 2, fun w => weekday_no n w h, fun w => rweekday_no n w h⟩
  · exact ⟨n % 7, 0, fun w => weekday_yes n w (by omega) (by omega), fun w => rweekday_yes n w (by omega) (by omega)⟩

set_option maxHeartbeats 1000000 in
theorem tells_walk (y : Int) (_hy : (Lit.int .i64 y).wf = true) (m : Int) (_hm : (Lit.int .i64 m).wf = true) (d : Int) (_hd : (Lit.int .i64 d).wf = true) (n : Int) (_hn : (Lit.int .i64 n).wf = true) (w : World) :
    Calls Try.prog 3 #[.int .i64 y, .int .i64 m, .int .i64 d, .int .i64 n] w fun e w' => e = .returned (.bool true) ∧ Below w.heap.size w w' := by
  clear _hy _hm _hd _hn
  obtain ⟨a, b, c, g, hp, hr⟩ := parts_uni n
  obtain ⟨s, t, hl, hk⟩ := length_uni y m
  obtain ⟨u, v, hw, hx⟩ := weekday_uni n
  have HP := Lib.hid hp
  have HR := Lib.hid hr
  have HL := Lib.hid hl
  have HK := Lib.hid hk
  have HW := Lib.hid hw
  have HX := Lib.hid hx
  clear hp hr hl hk hw hx
  go_enter Try.func3, Try.ntmps3
  go_wp2_with fail
  refine (of_any _ _ _ _).mono ?_
  rintro e w1 ⟨rfl, hb1⟩
  go_wp2_with fail
  refine (rof_any _ _ _ _).mono ?_
  rintro e w' ⟨rfl, rfl⟩
  go_wp2_with fail
  refine (HP.out _).mono ?_
  rintro e w2 ⟨rfl, hb2⟩
  go_wp2_with fail
  refine (HR.out _).mono ?_
  rintro e w' ⟨rfl, rfl⟩
  go_wp2_with fail
  refine (HW.out _).mono ?_
  rintro e w' ⟨rfl, rfl⟩
  go_wp2_with fail
  refine (HX.out _).mono ?_
  rintro e w' ⟨rfl, rfl⟩
  go_wp2_with fail
  refine (HL.out _).mono ?_
  rintro e w3 ⟨rfl, hb3⟩
  go_wp2_with fail
  refine (HK.out _).mono ?_
  rintro e w' ⟨rfl, rfl⟩
  go_wp2_with fail
  refine (leap_any _ _).mono ?_
  rintro e w' ⟨rfl, rfl⟩
  go_wp2_with fail
  refine (rleap_any _ _).mono ?_
  rintro e w' ⟨rfl, rfl⟩
  go_wp2
  go_ret
  exact ⟨rfl, hb1.trans ((hb2.mono hb1.size).trans (hb3.mono (by have := hb1.size; have := hb2.size; omega)))⟩
end Go.Proofs.Ytaogoednndlaeaa.Dt
