/-
  The reference: the walks of Valid (calendar), Valid, Step, Regular, Stub.
-/
import Derived.Test.YtainmmdlbajpnaaScL
import Derived.Test.YtainmmdlbajpnaaCrV
namespace Go.Proofs.Ytainmmdlbajpnaa.Sc
open Go.RowKit Go.Proofs.Ytainmmdlbajpnaa Go.Proofs.Ytainmmdlbajpnaa.Ls Go.Proofs.Ytainmmdlbajpnaa.Kb
open Go.Proofs.Ytainmmdlbajpnaa.Dt hiding ret_bool ret_int

theorem rin_any (n a b : Int) (w : World) :
    Calls Try.prog 40 #[.int .i64 n, .int .i64 a, .int .i64 b] w fun e w' => e = .returned (.bool (decide (a ≤ n) && decide (n ≤ b))) ∧ w = w' := by
  by_cases h : a ≤ n ∧ n ≤ b
  · rw [decide_eq_true h.1, decide_eq_true h.2]
    exact rin_yes n a b w h.1 h.2
  · have : (decide (a ≤ n) && decide (n ≤ b)) = false := by
      rw [Bool.and_eq_false_iff, decide_eq_false_iff_not, decide_eq_false_iff_not]
      omega
    rw [this]
    exact rin_no n a b w (by omega)

set_option maxRecDepth 100000 in
set_option maxHeartbeats 2000000 in
theorem rsch_any (s : Sch) (w : World) (hS : SchAt w s) :
    Calls Try.prog 22 #[.agg s.cells] w fun e w' => e = .returned (.bool (schOK s)) ∧ Below w.heap.size w w' := by
  obtain ⟨S, E, Mo, back, last, stub, roll, wk, a, c, hs⟩ := s
  obtain ⟨hL, hA, _⟩ := hS
  have HA := Lib.hid hA
  clear hA
  simp only [Sch.cells] at *
  have HE := Lib.hid (show schOK ⟨S, E, Mo, back, last, stub, roll, wk, a, c, hs⟩ = (calOK wk hs && decide (0 ≤ S ∧ S < E ∧ E ≤ 99999 ∧ 1 ≤ Mo ∧ Mo ≤ 1200 ∧ stub ≤ 1 ∧ roll ≤ 4)) from rfl)
  generalize schOK _ = ok at HE ⊢
  go_enter Try.func22, Try.ntmps22
  have hbo : Below w.heap.size w (w.alloc (.cells #[.int .i64 S, .int .i64 E, .int .i64 Mo, .bool back, .bool last, .int .u8 stub, .int .u8 roll, .int .u8 wk, .slice a hs.length c] 26)) := (Below.refl _ _).alloc (Nat.le_refl _) _
  have hx := blk_new w (.cells #[.int .i64 S, .int .i64 E, .int .i64 Mo, .bool back, .bool last, .int .u8 stub, .int .u8 roll, .int .u8 wk, .slice a hs.length c] 26)
  go_wp2_with fail
  generalize w.alloc _ = wo at hx hbo ⊢
  refine (rcal_any wk a c hs wo hL (HA.out.below hbo)).mono ?_
  rintro e w1 ⟨rfl, hb1⟩
  have hx := blk_keep hx hb1
  have c1 := bt hbo hb1 (Nat.le_refl _)
  have x0 := cell_of hx 0 _ rfl
  have x1 := cell_of hx 1 _ rfl
  have x2 := cell_of hx 2 _ rfl
  have x5 := cell_of hx 5 _ rfl
  have x6 := cell_of hx 6 _ rfl
  rcases hb (calOK wk hs) with hc | hc
  · rw [hc] at HE ⊢
    clear hc hb1 hbo hx
    go_wp2_with (first
      | (go_at_call 33; refine (rday_any _ _ rfl _).mono ?_; rintro e w9 ⟨rfl, rfl⟩)
      | (go_at_call 40; refine (rin_any _ _ _ _).mono ?_; rintro e w9 ⟨rfl, rfl⟩))
    all_goals
      go_ret
      refine ⟨ret_bool ?_, c1⟩
      rw [HE.out, Bool.eq_iff_iff]
      simp only [Bool.and_eq_true, decide_eq_true_eq, true_and, Bool.false_eq_true, false_iff] at *
      omega
  · rw [hc] at HE ⊢
    clear hc hb1 hbo hx
    go_wp2
    go_ret
    refine ⟨ret_bool ?_, c1⟩
    rw [HE.out]
    rfl

end Go.Proofs.Ytainmmdlbajpnaa.Sc
