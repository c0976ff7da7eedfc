/-
  The walks of the laws DateInverse, DateAdds, DateYears.
-/
import Derived.Test.YtaogoednndlaeaaDateAlive
namespace Go.Proofs.Ytaogoednndlaeaa.Dt
open Go.RowKit Go.Proofs.Ytaogoednndlaeaa

theorem of_date {y m d n : Int} (hD : IsDate y m d n) (hn : n ≤ 99999) : ofV y m d = n ∧ ofE y m d = 0 := by
  obtain ⟨a1, a2, a3, a4, a5, a6, a7⟩ := hD
  have h := (of_val y m d a1 a2 a3 a4 a5 a6).1 (by omega)
  exact ⟨h.1.trans a7, h.2⟩

theorem next_day {y m d n : Int} (hD : IsDate y m d n) (h : d < mlen y m) : IsDate y m (d + 1) (n + 1) := by
  obtain ⟨a1, a2, a3, a4, a5, a6, a7⟩ := hD
  exact ⟨a1, a2, a3, a4, by omega, by omega, by unfold dnum at *; omega⟩
theorem next_month {y m d n : Int} (hD : IsDate y m d n) (h : ¬ d < mlen y m) (hm : m < 12) : IsDate y (m + 1) 1 (n + 1) := by
  obtain ⟨a1, a2, a3, a4, a5, a6, a7⟩ := hD
  have h1 := cum_succ y m a3 a4
  have h2 := mlen_bd y (m + 1)
  exact ⟨a1, a2, by omega, by omega, by omega, by omega, by unfold dnum at *; omega⟩
theorem next_year {y m d n : Int} (hD : IsDate y m d n) (h : ¬ d < mlen y m) (hm : ¬ m < 12) (hn : n < 99999) : IsDate (y + 1) 1 1 (n + 1) := by
  have hy := hD.year
  obtain ⟨a1, a2, a3, a4, a5, a6, a7⟩ := hD
  obtain rfl : m = 12 := by omega
  have h1 := cum_succ y 12 a3 a4
  have h13 : cum y (12 + 1) = 337 + feb y := cum_13 y
  have h2 := mlen_bd (y + 1) 1
  have h3 := first_succ y
  have h4 := cum_one (y + 1)
  have h5 : first (y + 1) = n + 1 := by unfold dnum at a7; omega
  have h6 : y + 1 ≤ 2173 := last_year0 (y + 1) (n + 1) (by omega) (by omega)
  exact ⟨by omega, h6, by omega, by omega, by omega, by omega, by unfold dnum; omega⟩

theorem next_any {y m d n : Int} (hD : IsDate y m d n) (hn : n < 99999) :
    (d < mlen y m ∧ IsDate y m (d + 1) (n + 1)) ∨ (mlen y m ≤ d ∧ m < 12 ∧ IsDate y (m + 1) 1 (n + 1)) ∨ (mlen y m ≤ d ∧ 12 ≤ m ∧ IsDate (y + 1) 1 1 (n + 1)) := by
  by_cases h : d < mlen y m
  · exact .inl ⟨h, next_day hD h⟩
  · by_cases hm : m < 12
    · exact .inr (.inl ⟨by omega, hm, next_month hD h hm⟩)
    · exact .inr (.inr ⟨by omega, by omega, next_year hD h hm hn⟩)

set_option maxRecDepth 100000 in
set_option maxHeartbeats 4000000 in
theorem inverse_walk (n : Int) (_wn : (Lit.int .i64 n).wf = true) (w : World) :
    Calls Try.prog 7 #[.int .i64 n] w fun e w' => e = .returned (.bool true) ∧ Below w.heap.size w w' := by
  clear _wn
  by_cases h : n < 0 ∨ 99999 < n
  · have H := Lib.hid h
    by_cases h0 : n < 0
    all_goals
      have h1 : n < 0 ∨ 99999 < n := h
      clear h
      go_enter Try.func7, Try.ntmps7
      go_wp2_with fail
      refine (alive_any _).mono ?_
      rintro e w1 ⟨rfl, hb1⟩
      go_wp2_with fail
      refine (parts_no n _ H.out).mono ?_
      rintro e w' ⟨rfl, rfl⟩
      go_wp2
      go_ret
      exact ⟨rfl, hb1⟩
  · have hn0 : 0 ≤ n := by omega
    have hn1 : n ≤ 99999 := by omega
    obtain ⟨y, m, d, hD⟩ := date_exists n hn0 hn1
    have hO := of_date hD hn1
    have hd := hD
    obtain ⟨a1, a2, a3, a4, a5, a6, a7⟩ := hd
    have HD := Lib.hid hD
    have HO := Lib.hid hO
    have hml := mlen_bd y m
    clear h hD hO a7
    by_cases hmax : n = 99999
    · subst hmax
      go_enter Try.func7, Try.ntmps7
      go_wp2_with fail
      refine (alive_any _).mono ?_
      rintro e w1 ⟨rfl, hb1⟩
      go_wp2_with fail
      refine (parts_yes y m d _ _ HD.out hn1).mono ?_
      rintro e w2 ⟨rfl, hb2⟩
      have c2 := bt hb1 hb2 (Nat.le_refl _)
      go_wp2_with fail
      refine (of_at _ _ _ _ 0 _ HO.out).mono ?_
      rintro e w3 ⟨rfl, hb3⟩
      have c3 := bt c2 hb3 (Nat.le_refl _)
      go_wp2_with fail
      refine (weekday_yes _ _ hn0 hn1).mono ?_
      rintro e w' ⟨rfl, rfl⟩
      go_wp2_with fail
      refine (length_yes y m _ a1 a2 a3 a4).mono ?_
      rintro e w4 ⟨rfl, hb4⟩
      have c4 := bt c3 hb4 (Nat.le_refl _)
      go_wp2
      go_ret
      exact ⟨rfl, c4⟩
    · have hlt : n < 99999 := by omega
      have hne : (n == 99999) = false := by rw [beq_eq_false_iff_ne]; exact hmax
      have hw7 : 0 ≤ n % 7 ∧ n % 7 ≤ 6 := by omega
      have hnx : ((n + 1) % 7 != (n % 7 + 1) % 7) = false := by rw [bne_eq_false_iff_eq]; omega
      rcases next_any HD.out hlt with ⟨hdl, hN⟩ | ⟨hdl, hm12, hN⟩ | ⟨hdl, hm12, hN⟩
      all_goals
        have HN := Lib.hid hN
        clear hmax hN
        go_enter Try.func7, Try.ntmps7
        go_wp2_with fail
        refine (alive_any _).mono ?_
        rintro e w1 ⟨rfl, hb1⟩
        go_wp2_with fail
        refine (parts_yes y m d _ _ HD.out hn1).mono ?_
        rintro e w2 ⟨rfl, hb2⟩
        have c2 := bt hb1 hb2 (Nat.le_refl _)
        go_wp2_with fail
        refine (of_at _ _ _ _ 0 _ HO.out).mono ?_
        rintro e w3 ⟨rfl, hb3⟩
        have c3 := bt c2 hb3 (Nat.le_refl _)
        go_wp2_with fail
        refine (weekday_yes _ _ hn0 hn1).mono ?_
        rintro e w' ⟨rfl, rfl⟩
        go_wp2_with fail
        refine (length_yes y m _ a1 a2 a3 a4).mono ?_
        rintro e w4 ⟨rfl, hb4⟩
        have c4 := bt c3 hb4 (Nat.le_refl _)
        go_wp2_with fail
        refine (parts_yes _ _ _ (n + 1) _ HN.out (by omega)).mono ?_
        rintro e w5 ⟨rfl, hb5⟩
        have c5 := bt c4 hb5 (Nat.le_refl _)
        go_wp2_with fail
        refine (weekday_yes _ _ (by omega) (by omega)).mono ?_
        rintro e w' ⟨rfl, rfl⟩
        go_wp2
        go_ret
        exact ⟨rfl, c5⟩
end Go.Proofs.Ytaogoednndlaeaa.Dt
