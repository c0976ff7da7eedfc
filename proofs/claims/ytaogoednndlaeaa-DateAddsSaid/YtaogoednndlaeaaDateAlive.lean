/-
  The walk of the date examples.
-/
import Derived.Test.YtaogoednndlaeaaDateT2
import Derived.Test.YtaogoednndlaeaaDateW4
namespace Go.Proofs.Ytaogoednndlaeaa.Dt
open Go.RowKit Go.Proofs.Ytaogoednndlaeaa

theorem of_at (y m d v g : Int) (w : World) (h : ofV y m d = v ∧ ofE y m d = g) :
    Calls Try.prog 12 #[.int .i64 y, .int .i64 m, .int .i64 d] w fun e w' => e = .returned (.tuple #[.int .i64 v, .int .i64 g]) ∧ Below w.heap.size w w' := by
  obtain ⟨rfl, rfl⟩ := h
  exact of_any y m d w
theorem add_at (y m d n k v g : Int) (last : Bool) (w : World) (hD : IsDate y m d n) (hn : n ≤ 99999) (hk0 : -4000 ≤ k) (hk1 : k ≤ 4000) (h : addV y m d k last = v ∧ addE y m d k last = g) :
    Calls Try.prog 22 #[.int .i64 n, .int .i64 k, .bool last] w fun e w' => e = .returned (.tuple #[.int .i64 v, .int .i64 g]) ∧ Below w.heap.size w w' := by
  obtain ⟨rfl, rfl⟩ := h
  exact add_yes y m d n k last w hD hn hk0 hk1
theorem parse_at (s : ByteArray) (v g : Int) (w : World) (hs : s.size ≤ maxLen) (h : psV s.data.toList = v ∧ psE s.data.toList = g) :
    Calls Try.prog 26 #[.string s] w fun e w' => e = .returned (.tuple #[.int .i64 v, .int .i64 g]) ∧ Below w.heap.size w w' := by
  obtain ⟨rfl, rfl⟩ := h
  exact parse_any s w hs

theorem d1 : IsDate 2024 1 31 45320 := by unfold IsDate; decide
theorem d2 : IsDate 2024 2 29 45349 := by unfold IsDate; decide

/-- what a walk that makes memory passes on -/
theorem bt {B : Nat} {a b c : World} (h : Below B a b) (k : Below b.heap.size b c) (hB : B ≤ a.heap.size) : Below B a c := h.trans (k.mono (Nat.le_trans hB h.size))

set_option maxRecDepth 100000 in
set_option maxHeartbeats 1000000 in
theorem alive_any (w : World) :
    Calls Try.prog 28 #[] w fun e w' => e = .returned (.bool true) ∧ Below w.heap.size w w' := by
  have h1 := of_at 2026 11 16 46340 0
  have h2 := add_at 2024 1 31 45320 1 45349 0 false
  go_enter Try.func28, Try.ntmps28
  go_wp2_with fail
  refine (of_at _ _ _ 46340 0 _ (by decide)).mono ?_
  rintro e w1 ⟨rfl, hb1⟩
  go_wp2_with fail
  refine (add_at 2024 1 31 _ _ 45349 0 _ _ d1 (by decide) (by decide) (by decide) (by decide)).mono ?_
  rintro e w2 ⟨rfl, hb2⟩
  have c2 := bt hb1 hb2 (Nat.le_refl _)
  go_wp2_with fail
  refine (add_at 2024 2 29 _ _ 45378 0 _ _ d2 (by decide) (by decide) (by decide) (by decide)).mono ?_
  rintro e w3 ⟨rfl, hb3⟩
  have c3 := bt c2 hb3 (Nat.le_refl _)
  go_wp2_with fail
  refine (add_at 2024 2 29 _ _ 45380 0 _ _ d2 (by decide) (by decide) (by decide) (by decide)).mono ?_
  rintro e w4 ⟨rfl, hb4⟩
  have c4 := bt c3 hb4 (Nat.le_refl _)
  clear hb1 hb2 hb3 hb4 c2 c3
  go_wp2_with fail
  refine (weekday_yes _ _ (by decide) (by decide)).mono ?_
  rintro e w' ⟨rfl, rfl⟩
  go_wp2_with fail
  refine (parse_at _ 0 2 _ (by decide) (by decide)).mono ?_
  rintro e w5 ⟨rfl, hb5⟩
  have c5 := bt c4 hb5 (Nat.le_refl _)
  go_wp2_with fail
  refine (text_yes 2024 2 29 _ _ d2 (by decide)).mono ?_
  rintro e w6 ⟨rfl, hb6⟩
  have c6 := bt c5 hb6 (Nat.le_refl _)
  have ht : textL 2024 2 29 = [50, 48, 50, 52, 45, 48, 50, 45, 50, 57] := by decide
  rw [ht]
  clear ht
  go_wp2
  go_ret
  exact ⟨rfl, c6⟩
end Go.Proofs.Ytaogoednndlaeaa.Dt
