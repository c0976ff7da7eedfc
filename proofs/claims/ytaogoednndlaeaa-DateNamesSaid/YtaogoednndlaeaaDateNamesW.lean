/-
  The walk of the law DateNames.
-/
import Derived.Test.YtaogoednndlaeaaDateAlive
namespace Go.Proofs.Ytaogoednndlaeaa.Dt
open Go.RowKit Go.Proofs.Ytaogoednndlaeaa

theorem leap_at (y : Int) (b : Bool) (w : World) (h : leap y = b) :
    Calls Try.prog 20 #[.int .i64 y] w fun e w' => e = .returned (.bool b) ∧ w = w' := by
  subst h
  exact leap_any y w
theorem length_at (y m v : Int) (w : World) (h0 : 1900 ≤ y) (h1 : y ≤ 2173) (h2 : 1 ≤ m) (h3 : m ≤ 12) (h : mlen y m = v) :
    Calls Try.prog 18 #[.int .i64 y, .int .i64 m] w fun e w' => e = .returned (.tuple #[.int .i64 v, .int .i64 0]) ∧ Below w.heap.size w w' := by
  subst h
  exact length_yes y m w h0 h1 h2 h3

set_option maxRecDepth 100000 in
set_option maxHeartbeats 4000000 in
theorem names_walk (w : World) :
    Calls Try.prog 6 #[] w fun e w' => e = .returned (.bool true) ∧ Below w.heap.size w w' := by
  go_enter Try.func6, Try.ntmps6
  go_wp2_with fail
  refine (parts_yes 2173 10 15 _ _ (by unfold IsDate; decide) (by decide)).mono ?_
  rintro e cw1 ⟨rfl, cb1⟩
  have c1 := cb1
  clear cb1
  go_wp2_with fail
  refine (of_at _ _ _ 0 0 _ (by decide)).mono ?_
  rintro e cw2 ⟨rfl, cb2⟩
  have c2 := bt c1 cb2 (Nat.le_refl _)
  clear c1
  clear cb2
  go_wp2_with fail
  refine (of_at _ _ _ 0 2 _ (by decide)).mono ?_
  rintro e cw3 ⟨rfl, cb3⟩
  have c3 := bt c2 cb3 (Nat.le_refl _)
  clear c2
  clear cb3
  go_wp2_with fail
  refine (of_at _ _ _ 0 2 _ (by decide)).mono ?_
  rintro e cw4 ⟨rfl, cb4⟩
  have c4 := bt c3 cb4 (Nat.le_refl _)
  clear c3
  clear cb4
  go_wp2_with fail
  refine (of_at _ _ _ 0 2 _ (by decide)).mono ?_
  rintro e cw5 ⟨rfl, cb5⟩
  have c5 := bt c4 cb5 (Nat.le_refl _)
  clear c4
  clear cb5
  go_wp2_with fail
  refine (of_at _ _ _ 36583 0 _ (by decide)).mono ?_
  rintro e cw6 ⟨rfl, cb6⟩
  have c6 := bt c5 cb6 (Nat.le_refl _)
  clear c5
  clear cb6
  go_wp2_with fail
  refine (parts_no _ _ (by decide)).mono ?_
  rintro e w' ⟨rfl, rfl⟩
  go_wp2_with fail
  refine (weekday_no _ _ (by decide)).mono ?_
  rintro e w' ⟨rfl, rfl⟩
  go_wp2_with fail
  refine (add_at 1900 1 1 _ _ 0 40 _ _ (by unfold IsDate; decide) (by decide) (by decide) (by decide) (by decide)).mono ?_
  rintro e cw7 ⟨rfl, cb7⟩
  have c7 := bt c6 cb7 (Nat.le_refl _)
  clear c6
  clear cb7
  go_wp2_with fail
  refine (add_at 2173 10 15 _ _ 0 40 _ _ (by unfold IsDate; decide) (by decide) (by decide) (by decide) (by decide)).mono ?_
  rintro e cw8 ⟨rfl, cb8⟩
  have c8 := bt c7 cb8 (Nat.le_refl _)
  clear c7
  clear cb8
  go_wp2_with fail
  refine (add_no _ _ _ _ (by decide)).mono ?_
  rintro e cw9 ⟨rfl, cb9⟩
  have c9 := bt c8 cb9 (Nat.le_refl _)
  clear c8
  clear cb9
  go_wp2_with fail
  refine (add_no _ _ _ _ (by decide)).mono ?_
  rintro e cw10 ⟨rfl, cb10⟩
  have c10 := bt c9 cb10 (Nat.le_refl _)
  clear c9
  clear cb10
  go_wp2_with fail
  refine (add_at 1900 1 31 _ _ 30 0 _ _ (by unfold IsDate; decide) (by decide) (by decide) (by decide) (by decide)).mono ?_
  rintro e cw11 ⟨rfl, cb11⟩
  have c11 := bt c10 cb11 (Nat.le_refl _)
  clear c10
  clear cb11
  go_wp2_with fail
  refine (length_no _ _ _ (by decide)).mono ?_
  rintro e w' ⟨rfl, rfl⟩
  go_wp2_with fail
  refine (length_no _ _ _ (by decide)).mono ?_
  rintro e w' ⟨rfl, rfl⟩
  go_wp2_with fail
  refine (length_at 2100 2 28 _ (by decide) (by decide) (by decide) (by decide) (by decide)).mono ?_
  rintro e cw12 ⟨rfl, cb12⟩
  have c12 := bt c11 cb12 (Nat.le_refl _)
  clear c11
  clear cb12
  go_wp2_with fail
  refine (parse_at _ 0 12 _ (by decide) (by decide)).mono ?_
  rintro e cw13 ⟨rfl, cb13⟩
  have c13 := bt c12 cb13 (Nat.le_refl _)
  clear c12
  clear cb13
  go_wp2_with fail
  refine (parse_at _ 0 12 _ (by decide) (by decide)).mono ?_
  rintro e cw14 ⟨rfl, cb14⟩
  have c14 := bt c13 cb14 (Nat.le_refl _)
  clear c13
  clear cb14
  go_wp2_with fail
  refine (parse_at _ 0 2 _ (by decide) (by decide)).mono ?_
  rintro e cw15 ⟨rfl, cb15⟩
  have c15 := bt c14 cb15 (Nat.le_refl _)
  clear c14
  clear cb15
  go_wp2_with fail
  refine (parse_at _ 99999 0 _ (by decide) (by decide)).mono ?_
  rintro e cw16 ⟨rfl, cb16⟩
  have c16 := bt c15 cb16 (Nat.le_refl _)
  clear c15
  clear cb16
  go_wp2_with fail
  refine (leap_at _ true _ (by decide)).mono ?_
  rintro e w' ⟨rfl, rfl⟩
  go_wp2_with fail
  refine (leap_at _ false _ (by decide)).mono ?_
  rintro e w' ⟨rfl, rfl⟩
  go_wp2_with fail
  refine (leap_at _ true _ (by decide)).mono ?_
  rintro e w' ⟨rfl, rfl⟩
  go_wp2_with fail
  refine (leap_at _ false _ (by decide)).mono ?_
  rintro e w' ⟨rfl, rfl⟩
  go_wp2_with fail
  refine (leap_at _ true _ (by decide)).mono ?_
  rintro e w' ⟨rfl, rfl⟩
  go_wp2_with fail
  refine (leap_at _ false _ (by decide)).mono ?_
  rintro e w' ⟨rfl, rfl⟩
  go_wp2_with fail
  refine (alive_any _).mono ?_
  rintro e cw17 ⟨rfl, cb17⟩
  have c17 := bt c16 cb17 (Nat.le_refl _)
  clear c16
  clear cb17
  go_wp2
  go_ret
  exact ⟨rfl, c17⟩
end Go.Proofs.Ytaogoednndlaeaa.Dt
