/-
  The walk of the date reference: AddMonths; and the law DateMonths.
-/
import Derived.Test.YtainmmdlbajpnaaDateR2
import Derived.Test.YtainmmdlbajpnaaDateW4
namespace Go.Proofs.Ytainmmdlbajpnaa.Dt
open Go.RowKit Go.Proofs.Ytainmmdlbajpnaa

theorem radd_end (y m d k D : Int) (last : Bool) (h : 1 ≤ d) (hA : addD y m d k last = D) :
    (ofV (1900 + mon y m k / 12) (mon y m k % 12 + 1) D = addV y m d k last ∧ ofE (1900 + mon y m k / 12) (mon y m k % 12 + 1) D = 0 ∧ addE y m d k last = 0) ∨
    (ofE (1900 + mon y m k / 12) (mon y m k % 12 + 1) D = 2 ∧ addV y m d k last = 0 ∧ addE y m d k last = 40) := by
  by_cases g : 0 ≤ mon y m k ∧ mon y m k / 12 ≤ 273
  · exact add_end y m d k D last h g.1 g.2 hA
  · obtain ⟨e1, e2⟩ := add_out y m d k last g
    have hz := of_zero (1900 + mon y m k / 12) (mon y m k % 12 + 1) D (fun x => g ⟨by omega, by omega⟩)
    exact .inr ⟨hz.2, e1, e2⟩

theorem radd_call (y m d k z q D : Int) (last : Bool) (w : World) (h : 1 ≤ d) (hz : z = 1900 + mon y m k / 12) (hq : q = mon y m k % 12 + 1) (hA : addD y m d k last = D) :
    Calls Try.prog 63 #[.int .i64 z, .int .i64 q, .int .i64 D] w fun e w' =>
      ∃ v g : Int, e = .returned (.tuple #[.int .i64 v, .int .i64 g]) ∧ (g = 0 ∧ v = addV y m d k last ∧ addE y m d k last = 0 ∨ g = 2 ∧ addV y m d k last = 0 ∧ addE y m d k last = 40) ∧ w = w' := by
  subst hz hq
  refine (rof_any _ _ _ w).mono ?_
  rintro e w' ⟨rfl, hb⟩
  refine ⟨_, _, rfl, ?_, hb⟩
  rcases radd_end y m d k D last h hA with ⟨e1, e2, e3⟩ | ⟨e2, e1, e3⟩
  · exact .inl ⟨e2, e1, e3⟩
  · exact .inr ⟨e2, e1, e3⟩

/-- the day of the month, way by way -/
theorem addD_last (y m d k z q : Int) (last : Bool) (hz : z = 1900 + mon y m k / 12) (hq : q = mon y m k % 12 + 1) (h1 : last = true) (h2 : (d == mlen y m) = true) : addD y m d k last = mlen z q := by
  subst hz hq
  rw [addD, h1, h2]
  rfl
theorem addD_cut (y m d k z q : Int) (last : Bool) (hz : z = 1900 + mon y m k / 12) (hq : q = mon y m k % 12 + 1) (h1 : last = false ∨ (d == mlen y m) = false) (h2 : mlen z q ≤ d) : addD y m d k last = mlen z q := by
  subst hz hq
  rw [addD, if_neg (by rcases h1 with h | h <;> simp [h])]
  exact Int.min_eq_right h2
theorem addD_keep (y m d k z q : Int) (last : Bool) (hz : z = 1900 + mon y m k / 12) (hq : q = mon y m k % 12 + 1) (h1 : last = false ∨ (d == mlen y m) = false) (h2 : d ≤ mlen z q) : addD y m d k last = d := by
  subst hz hq
  rw [addD, if_neg (by rcases h1 with h | h <;> simp [h])]
  exact Int.min_eq_left h2

set_option maxHeartbeats 2000000 in
theorem radd_yes (y m d n k : Int) (last : Bool) (w : World) (hD : IsDate y m d n) (hn : n ≤ 99999) (hk0 : -4000 ≤ k) (hk1 : k ≤ 4000) :
    Calls Try.prog 53 #[.int .i64 n, .int .i64 k, .bool last] w fun e w' => e = .returned (.tuple #[.int .i64 (addV y m d k last), .int .i64 (addE y m d k last)]) ∧ w = w' := by
  have hd := hD
  obtain ⟨a1, a2, a3, a4, a5, a6, a7⟩ := hd
  have hml := mlen_bd y m
  clear a7
  have HD := Lib.hid hD
  clear hD
  have hmon : -4000 ≤ mon y m k ∧ mon y m k ≤ 8000 := by unfold mon; omega
  have hmk : mon y m k = 12 * (y - 1900) + m - 1 + k := rfl
  have HM := Lib.hid hmk
  clear hmk
  go_enter Try.func53, Try.ntmps53
  go_wp2_with fail
  refine (rparts_yes y m d n _ HD.out hn).mono ?_
  rintro e w' ⟨rfl, rfl⟩
  go_wp2_with fail
  refine (rin_yes _ _ _ _ hk0 hk1).mono ?_
  rintro e w' ⟨rfl, rfl⟩
  go_wp2_with fail
  refine (rlong_any _ _ _ a3 a4).mono ?_
  rintro e w' ⟨rfl, rfl⟩
  go_wp2_with fail
  go_loop [1, 8, 9] (fun a b c => ∃ r z q : Int, -4000 ≤ r ∧ r ≤ 4000 ∧ 1 ≤ q ∧ q ≤ 12 ∧ 500 ≤ z ∧ z ≤ 3500 ∧ Hid (12 * (z - 1900) + q - 1 + r = mon y m k) ∧ a = .int .i64 r ∧ b = .int .i64 z ∧ c = .int .i64 q) (fun a _ _ => (intOf a).toNat)
  case atStart => exact ⟨k, y, m, hk0, hk1, a3, a4, by omega, by omega, Lib.hid HM.out.symm, rfl, rfl, rfl⟩
  case round =>
    obtain ⟨r, z, q, hr0, hr1, hq0, hq1, hz0, hz1, HE, rfl, rfl, rfl⟩ := hrel
    by_cases hr : 0 < r
    · by_cases hq : q < 12
      · have HE2 := Lib.hid (show 12 * (z - 1900) + (q + 1) - 1 + (r - 1) = mon y m k by have := HE.out; omega)
        go_wp2
        go_round
        case rel => exact ⟨r - 1, z, q + 1, by omega, by omega, by omega, by omega, hz0, hz1, HE2, rfl, rfl, rfl⟩
        case measure => simp [intOf]; omega
      · obtain rfl : q = 12 := by omega
        have HE2 := Lib.hid (show 12 * (z + 1 - 1900) + 1 - 1 + (r - 1) = mon y m k by have := HE.out; omega)
        have hz2 : z + 1 ≤ 3500 := by have := HE2.out; omega
        go_wp2
        go_round
        case rel => exact ⟨r - 1, z + 1, 1, by omega, by omega, by omega, by omega, by omega, hz2, HE2, rfl, rfl, rfl⟩
        case measure => simp [intOf]; omega
    · go_wp2_with fail
      go_loop [1, 8, 9] (fun a b c => ∃ r z q : Int, -4000 ≤ r ∧ r ≤ 0 ∧ 1 ≤ q ∧ q ≤ 12 ∧ 500 ≤ z ∧ z ≤ 3500 ∧ Hid (12 * (z - 1900) + q - 1 + r = mon y m k) ∧ a = .int .i64 r ∧ b = .int .i64 z ∧ c = .int .i64 q) (fun a _ _ => (- intOf a).toNat)
      case atStart => exact ⟨r, z, q, hr0, by omega, hq0, hq1, hz0, hz1, HE, rfl, rfl, rfl⟩
      case round =>
        clear hr hr0 hr1 hq0 hq1 hz0 hz1 HE
        obtain ⟨r, z, q, hr0, hr1, hq0, hq1, hz0, hz1, HE, rfl, rfl, rfl⟩ := hrel
        by_cases hr : r < 0
        · by_cases hq : 1 < q
          · have HE2 := Lib.hid (show 12 * (z - 1900) + (q - 1) - 1 + (r + 1) = mon y m k by have := HE.out; omega)
            go_wp2
            go_round
            case rel => exact ⟨r + 1, z, q - 1, by omega, by omega, by omega, by omega, hz0, hz1, HE2, rfl, rfl, rfl⟩
            case measure => simp [intOf]; omega
          · obtain rfl : q = 1 := by omega
            have HE2 := Lib.hid (show 12 * (z - 1 - 1900) + 12 - 1 + (r + 1) = mon y m k by have := HE.out; omega)
            have hz2 : 500 ≤ z - 1 := by have := HE2.out; omega
            go_wp2
            go_round
            case rel => exact ⟨r + 1, z - 1, 12, by omega, by omega, by omega, by omega, hz2, by omega, HE2, rfl, rfl, rfl⟩
            case measure => simp [intOf]; omega
        · have HZ := Lib.hid (show z = 1900 + mon y m k / 12 by have := HE.out; omega)
          have HQ := Lib.hid (show q = mon y m k % 12 + 1 by have := HE.out; omega)
          have hml2 := mlen_bd z q
          go_wp2_with fail
          refine (rlong_any _ _ _ hq0 hq1).mono ?_
          rintro e w' ⟨rfl, rfl⟩
          go_wp2_with (go_at_call 62; refine (rlong_any _ _ _ hq0 hq1).mono ?_; rintro e w' ⟨rfl, rfl⟩)
          all_goals
            refine (radd_call y m d k _ _ _ last _ a5 HZ.out HQ.out ?_).mono ?_
            focus
              first
                | exact addD_last y m d k z q last HZ.out HQ.out (by assumption) (by assumption)
                | exact addD_cut y m d k z q last HZ.out HQ.out (.inr (by assumption)) (by omega)
                | exact addD_keep y m d k z q last HZ.out HQ.out (.inr (by assumption)) (by omega)
                | exact addD_cut y m d k z q last HZ.out HQ.out (.inl (by have hl : ¬ last = true := by assumption
                                                                          simpa using hl)) (by omega)
                | exact addD_keep y m d k z q last HZ.out HQ.out (.inl (by have hl : ¬ last = true := by assumption
                                                                           simpa using hl)) (by omega)
            rintro e w4 ⟨v, g, rfl, ⟨rfl, e1, e3⟩ | ⟨rfl, e1, e3⟩, rfl⟩
            all_goals
              have E1 := Lib.hid e1
              have E3 := Lib.hid e3
              clear e1 e3
              go_wp2
              go_ret2
              exact ⟨ret_pair (by first | exact E1.out | exact E1.out.symm) E3.out.symm, rfl⟩

set_option maxHeartbeats 400000 in
theorem radd_no (n k : Int) (last : Bool) (w : World) (h : n < 0 ∨ 99999 < n ∨ k < -4000 ∨ 4000 < k) :
    Calls Try.prog 53 #[.int .i64 n, .int .i64 k, .bool last] w fun e w' => e = .returned (.tuple #[.int .i64 0, .int .i64 2]) ∧ w = w' := by
  by_cases hn : n < 0 ∨ 99999 < n
  · have HN := Lib.hid hn
    clear h hn
    go_enter Try.func53, Try.ntmps53
    go_wp2_with fail
    refine (rparts_no n _ HN.out).mono ?_
    rintro e w1 ⟨rfl, rfl⟩
    go_wp2
    go_ret2
    exact ⟨rfl, rfl⟩
  · obtain ⟨y, m, d, hD⟩ := date_exists n (by omega) (by omega)
    have HD := Lib.hid hD
    have HK := Lib.hid (show k < -4000 ∨ 4000 < k by omega)
    have hn2 : n ≤ 99999 := by omega
    clear hD h hn
    go_enter Try.func53, Try.ntmps53
    go_wp2_with fail
    refine (rparts_yes y m d n _ HD.out hn2).mono ?_
    rintro e w1 ⟨rfl, rfl⟩
    go_wp2_with fail
    refine (rin_no _ _ _ _ HK.out).mono ?_
    rintro e w1 ⟨rfl, rfl⟩
    go_wp2
    go_ret2
    exact ⟨rfl, rfl⟩

theorem add_uni (n k : Int) (last : Bool) : ∃ a g : Int,
    (∀ w : World, Calls Try.prog 13 #[.int .i64 n, .int .i64 k, .bool last] w fun e w' => e = .returned (.tuple #[.int .i64 a, .int .i64 g]) ∧ Below w.heap.size w w') ∧
    (∀ w : World, Calls Try.prog 53 #[.int .i64 n, .int .i64 k, .bool last] w fun e w' => e = .returned (.tuple #[.int .i64 a, .int .i64 g]) ∧ w = w') := by
  by_cases h : n < 0 ∨ 99999 < n ∨ k < -4000 ∨ 4000 < k
  · exact ⟨0, 2, fun w => add_no n k last w h, fun w => radd_no n k last w h⟩
  · obtain ⟨y, m, d, hD⟩ := date_exists n (by omega) (by omega)
    exact ⟨_, _, fun w => add_yes y m d n k last w hD (by omega) (by omega) (by omega), fun w => radd_yes y m d n k last w hD (by omega) (by omega) (by omega)⟩

end Go.Proofs.Ytainmmdlbajpnaa.Dt
