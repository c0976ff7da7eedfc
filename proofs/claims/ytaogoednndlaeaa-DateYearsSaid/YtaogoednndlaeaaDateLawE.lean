/-
  The walk of the law DateYears.
-/
import Derived.Test.YtaogoednndlaeaaDateLawC
namespace Go.Proofs.Ytaogoednndlaeaa.Dt
open Go.RowKit Go.Proofs.Ytaogoednndlaeaa

theorem leap_400 (y : Int) : leap (y + 400) = leap y := by
  unfold leap
  have e4 : (y + 400) % 4 = y % 4 := by omega
  have e100 : (y + 400) % 100 = y % 100 := by omega
  have e400 : (y + 400) % 400 = y % 400 := by omega
  rw [e4, e100, e400]

theorem leap_at (y : Int) (b : Bool) (w : World) (h : leap y = b) :
    Calls Try.prog 20 #[.int .i64 y] w fun e w' => e = .returned (.bool b) ∧ w = w' := by
  subst h
  exact leap_any y w

theorem of_first (y q : Int) (h0 : 1900 ≤ y) (h1 : y ≤ 2173) (h2 : 1 ≤ q) (h3 : q ≤ 12) :
    (ofV y q 1 = first y + cum y q ∧ ofE y q 1 = 0) ∨ (ofV y q 1 = 0 ∧ ofE y q 1 = 2) := by
  have hm := mlen_bd y q
  have h := of_val y q 1 h0 h1 h2 h3 (by omega) (by omega)
  have hd : dnum y q 1 = first y + cum y q := by unfold dnum; omega
  rcases Int.lt_or_le 99999 (dnum y q 1) with g | g
  · exact .inr (h.2 g)
  · have := h.1 g
    exact .inl ⟨this.1.trans hd, this.2⟩
theorem of_jan (y : Int) (h0 : 1900 ≤ y) (h1 : y ≤ 2173) : ofV y 1 1 = first y ∧ ofE y 1 1 = 0 := by
  have hm := mlen_bd y 1
  have hd : dnum y 1 1 = first y := by unfold dnum; rw [cum_one]; omega
  have h := (of_val y 1 1 h0 h1 (by omega) (by omega) (by omega) (by omega)).1 (by have := first_mono y 2173 h1; rw [first_2173] at this; omega)
  exact ⟨h.1.trans hd, h.2⟩

/-- the first days of the months, one behind the other -/
theorem wf_lo (y : Int) (h : (Lit.int .i64 y).wf = true) : -9223372036854775808 ≤ y := by
  simp [Lit.wf, IntKind.min, IntKind.max, IntKind.signed, IntKind.bits] at h
  omega

theorem wrap_400 (y : Int) (h : (Lit.int .i64 y).wf = true) (h1 : y < 1152921504606846976) : leap (wrap64 (y + 400)) = leap y := by
  rw [← leap_400 y, IntWalk.wrap64_in (y + 400) ⟨by have := wf_lo y h; omega, by omega⟩]

set_option maxRecDepth 100000 in
set_option maxHeartbeats 4000000 in
theorem years_walk (y : Int) (wy : (Lit.int .i64 y).wf = true) (w : World) :
    Calls Try.prog 11 #[.int .i64 y] w fun e w' => e = .returned (.bool true) ∧ Below w.heap.size w w' := by
  by_cases h : y < 1152921504606846976
  · have HL := Lib.hid (wrap_400 y wy h)
    have HL2 := Lib.hid (leap_400 y)
    clear wy
    by_cases hy : 1900 ≤ y ∧ y ≤ 2173
    · obtain ⟨hy0, hy1⟩ := hy
      have HJ := Lib.hid (of_jan y hy0 hy1)
      have hfb := first_bd y hy0 (by omega)
      have hfe := feb_bd y
      have HS := Lib.hid (first_succ y)
      go_enter Try.func11, Try.ntmps11
      go_wp2_with fail
      refine (alive_any _).mono ?_
      rintro e w1 ⟨rfl, hb1⟩
      go_wp2_with fail
      refine (leap_any _ _).mono ?_
      rintro e w' ⟨rfl, rfl⟩
      go_wp2_with fail
      refine (leap_at _ (leap y) _ HL2.out).mono ?_
      rintro e w' ⟨rfl, rfl⟩
      go_wp2_with fail
      refine (of_at _ _ _ (first y) 0 _ HJ.out).mono ?_
      rintro e w2 ⟨rfl, hb2⟩
      have c2 := bt hb1 hb2 (Nat.le_refl _)
      clear hb1 hb2
      go_wp2_with fail
      go_loopw [6, 7] (fun a b wr => ∃ q : Int, 1 ≤ q ∧ q ≤ 13 ∧ b = .int .i64 q ∧ a = .int .i64 (cum y q) ∧ Below w.heap.size w wr) (fun _ b _ => (13 - intOf b).toNat)
      case atStart => exact ⟨1, by omega, by omega, rfl, by rw [cum_one], c2⟩
      case round =>
        obtain ⟨q, hq0, hq1, rfl, rfl, c3⟩ := hrel
        have hcb := cum_bd y q hq0 hq1
        by_cases hq : q ≤ 12
        · have hml := mlen_bd y q
          have HC := Lib.hid (cum_succ y q hq0 hq)
          rcases of_first y q hy0 hy1 hq0 hq with hO | hO
          · have HO := Lib.hid hO
            clear hO
            go_wp2_with fail
            refine (length_yes y q _ hy0 hy1 hq0 hq).mono ?_
            rintro e w4 ⟨rfl, hb4⟩
            have c4 := bt c3 hb4 (Nat.le_refl _)
            go_wp2_with fail
            refine (of_at _ _ _ (first y + cum y q) 0 _ HO.out).mono ?_
            rintro e w5 ⟨rfl, hb5⟩
            have c5 := bt c4 hb5 (Nat.le_refl _)
            clear hb4 hb5 c3 c4
            go_wp2
            go_roundw
            case rel => exact ⟨q + 1, by omega, by omega, rfl, by rw [HC.out], c5⟩
            case measure => simp [intOf]; omega
          · have HO := Lib.hid hO
            clear hO
            go_wp2_with fail
            refine (length_yes y q _ hy0 hy1 hq0 hq).mono ?_
            rintro e w4 ⟨rfl, hb4⟩
            have c4 := bt c3 hb4 (Nat.le_refl _)
            go_wp2_with fail
            refine (of_at _ _ _ 0 2 _ HO.out).mono ?_
            rintro e w5 ⟨rfl, hb5⟩
            have c5 := bt c4 hb5 (Nat.le_refl _)
            clear hb4 hb5 c3 c4
            go_wp2
            go_roundw
            case rel => exact ⟨q + 1, by omega, by omega, rfl, by rw [HC.out], c5⟩
            case measure => simp [intOf]; omega
        · obtain rfl : q = 13 := by omega
          have h13 := cum_13 y
          rw [h13]
          clear h13 hcb hq hq0 hq1 HL HL2
          by_cases hl : y = 2173
          · subst hl
            have g1 : feb 2173 = 28 := by decide
            rw [g1]
            have hne : ((2173 : Int) == 2173) = true := rfl
            clear g1
            go_wp2_with fail
            refine (of_at _ _ _ 0 2 _ (by decide)).mono ?_
            rintro e w4 ⟨rfl, hb4⟩
            have c4 := bt c3 hb4 (Nat.le_refl _)
            go_wp2_with fail
            refine (leap_at _ false _ (by decide)).mono ?_
            rintro e w' ⟨rfl, rfl⟩
            go_wp2
            go_ret
            exact ⟨rfl, c4⟩
          · rcases feb_cases y with ⟨g1, g2⟩ | ⟨g1, g2⟩
            all_goals
              have HN := Lib.hid (of_jan (y + 1) (by omega) (by omega))
              have hne : first (y + 1) = first y + 337 + feb y := HS.out
              rw [g1] at hne ⊢
              have HE := Lib.hid hne
              have G2 := Lib.hid g2
              clear g1 g2 hne
              go_wp2_with fail
              refine (of_at _ _ _ (first (y + 1)) 0 _ HN.out).mono ?_
              rintro e w4 ⟨rfl, hb4⟩
              have c4 := bt c3 hb4 (Nat.le_refl _)
              rw [HE.out]
              go_wp2_with fail
              refine (leap_at _ _ _ G2.out).mono ?_
              rintro e w' ⟨rfl, rfl⟩
              go_wp2
              go_ret
              exact ⟨rfl, c4⟩
    · have HZ := Lib.hid (of_zero y 1 1 (fun x => hy ⟨x.1, x.2.1⟩))
      by_cases hlo : y < 1900
      all_goals
        have hout : y < 1900 ∨ 2173 < y := by omega
        clear hy
        go_enter Try.func11, Try.ntmps11
        go_wp2_with fail
        refine (alive_any _).mono ?_
        rintro e w1 ⟨rfl, hb1⟩
        go_wp2_with fail
        refine (leap_any _ _).mono ?_
        rintro e w' ⟨rfl, rfl⟩
        go_wp2_with fail
        refine (leap_at _ (leap y) _ (by first | exact HL2.out | exact HL.out)).mono ?_
        rintro e w' ⟨rfl, rfl⟩
        go_wp2_with fail
        refine (of_at _ _ _ 0 2 _ HZ.out).mono ?_
        rintro e w2 ⟨rfl, hb2⟩
        have c2 := bt hb1 hb2 (Nat.le_refl _)
        go_wp2
        go_ret
        first
          | exact ⟨rfl, c2⟩
          | exact ⟨ret_bool (by simp; omega), c2⟩
  · have HZ := Lib.hid (of_zero y 1 1 (fun x => by omega))
    have hge : decide (y < 1152921504606846976) = false := by simpa using h
    have hout : 2173 < y := by omega
    have hlo : decide (y < 1900) = false := by rw [decide_eq_false_iff_not]; omega
    have hhi : decide (2173 < y) = true := decide_eq_true hout
    clear h wy
    go_enter Try.func11, Try.ntmps11
    go_wp2_with fail
    refine (alive_any _).mono ?_
    rintro e w1 ⟨rfl, hb1⟩
    go_wp2_with fail
    refine (of_at _ _ _ 0 2 _ HZ.out).mono ?_
    rintro e w2 ⟨rfl, hb2⟩
    have c2 := bt hb1 hb2 (Nat.le_refl _)
    go_wp2
    go_ret
    exact ⟨rfl, c2⟩
end Go.Proofs.Ytaogoednndlaeaa.Dt
