/-
  The walks of the date reference: Parts, Of.
-/
import Derived.Test.YtainmmdlbajpnaaDateR1
namespace Go.Proofs.Ytainmmdlbajpnaa.Dt
open Go.RowKit Go.Proofs.Ytainmmdlbajpnaa

theorem last_year (z n : Int) (h : first z ≤ n) (hn : n ≤ 99999) : z ≤ 2173 := by
  rcases Int.lt_or_le 2173 z with k | k
  · have := first_mono 2174 z (by omega)
    rw [first_2174] at this
    omega
  · exact k

set_option maxHeartbeats 1000000 in
theorem rparts_yes (y m d n : Int) (w : World) (hD : IsDate y m d n) (hn : n ≤ 99999) :
    Calls Try.prog 61 #[.int .i64 n] w fun e w' => e = .returned (.tuple #[.int .i64 y, .int .i64 m, .int .i64 d, .int .i64 0]) ∧ w = w' := by
  have hr := hD.range
  have HD := Lib.hid hD
  clear hD
  go_enter Try.func61, Try.ntmps61
  go_wp2_with fail
  refine (rday_yes _ _ hr.1 hn).mono ?_
  rintro e w' ⟨rfl, rfl⟩
  go_wp2_with fail
  go_loop [0, 6, 7] (fun a b c => ∃ r z k : Int, 0 ≤ r ∧ r ≤ n ∧ 1900 ≤ z ∧ z ≤ 2173 ∧ 1 ≤ k ∧ k ≤ 12 ∧ Hid (first z + cum z k + r = n) ∧ a = .int .i64 r ∧ b = .int .i64 z ∧ c = .int .i64 k) (fun a _ _ => (intOf a).toNat)
  case atStart => exact ⟨n, 1900, 1, by omega, by omega, by omega, by omega, by omega, by omega, Lib.hid (by rw [first_1900, cum_one]; omega), rfl, rfl, rfl⟩
  case round =>
    obtain ⟨r, z, k, hr0, hr1, hz0, hz1, hk0, hk1, HE, rfl, rfl, rfl⟩ := hrel
    have hml := mlen_bd z k
    by_cases hge : mlen z k ≤ r
    · by_cases hk : k < 12
      · have HE2 : Hid (first z + cum z (k + 1) + (r - mlen z k) = n) := by
          have := HE.out
          have := cum_succ z k hk0 hk1
          exact (by omega : first z + cum z (k + 1) + (r - mlen z k) = n)
        go_wp2_with (go_at_call 62; refine (rlong_any _ _ _ hk0 hk1).mono ?_; rintro e w' ⟨rfl, rfl⟩)
        go_round
        case rel => exact ⟨r - mlen z k, z, k + 1, by omega, by omega, by omega, by omega, by omega, by omega, HE2, rfl, rfl, rfl⟩
        case measure => simp [intOf]; omega
      · obtain rfl : k = 12 := by omega
        have HE2 : Hid (first (z + 1) + cum (z + 1) 1 + (r - mlen z 12) = n) := by
          have := HE.out
          have := cum_succ z 12 hk0 hk1
          have := first_succ z
          have h13 : cum z (12 + 1) = 337 + feb z := cum_13 z
          have := cum_one (z + 1)
          exact (by omega : first (z + 1) + cum (z + 1) 1 + (r - mlen z 12) = n)
        have hz2 : z + 1 ≤ 2173 := last_year (z + 1) n (by have := HE2.out; have := cum_one (z + 1); omega) hn
        go_wp2_with (go_at_call 62; refine (rlong_any _ _ _ hk0 hk1).mono ?_; rintro e w' ⟨rfl, rfl⟩)
        go_round
        case rel => exact ⟨r - mlen z 12, z + 1, 1, by omega, by omega, by omega, by omega, by omega, by omega, HE2, rfl, rfl, rfl⟩
        case measure => simp [intOf]; omega
    · have hu : Hid (y = z ∧ m = k ∧ d = r + 1) := HD.out.unique ⟨hz0, hz1, hk0, hk1, by omega, by omega, by have := HE.out; unfold dnum; omega⟩
      go_wp2_with fail
      refine (rlong_any _ _ _ hk0 hk1).mono ?_
      rintro e w' ⟨rfl, rfl⟩
      go_wp2
      refine bodyPost_ret (results_tmp4 rfl _ _ _) rfl ?_
      obtain ⟨e1, e2, e3⟩ := hu.out
      exact ⟨by rw [e1, e2, e3]; rfl, rfl⟩

set_option maxHeartbeats 400000 in
theorem rparts_no (n : Int) (w : World) (h : n < 0 ∨ 99999 < n) :
    Calls Try.prog 61 #[.int .i64 n] w fun e w' => e = .returned (.tuple #[.int .i64 0, .int .i64 0, .int .i64 0, .int .i64 2]) ∧ w = w' := by
  have H := Lib.hid h
  clear h
  go_enter Try.func61, Try.ntmps61
  go_wp2_with fail
  refine (rday_no _ _ H.out).mono ?_
  rintro e w' ⟨rfl, rfl⟩
  go_wp2
  refine bodyPost_ret (results_tmp4 rfl _ _ _) rfl ?_
  exact ⟨rfl, rfl⟩

set_option maxHeartbeats 1000000 in
theorem rof_mid (y m d : Int) (w : World) (h0 : 1900 ≤ y) (h1 : y ≤ 2173) (h2 : 1 ≤ m) (h3 : m ≤ 12) (h4 : 1 ≤ d) (h5 : d ≤ mlen y m) :
    Calls Try.prog 63 #[.int .i64 y, .int .i64 m, .int .i64 d] w fun e w' =>
      e = .returned (.tuple #[.int .i64 (ofV y m d), .int .i64 (ofE y m d)]) ∧ w = w' := by
  have hl := mlen_bd y m
  have hf := first_bd y h0 (by omega)
  have HF := Lib.hid (of_val y m d h0 h1 h2 h3 h4 h5)
  have HR := Lib.hid ((IsDate.mk h0 h1 h2 h3 h4 h5).range)
  have hD : dnum y m d = first y + cum y m + d - 1 := rfl
  have HD := Lib.hid hD
  clear hD
  go_enter Try.func63, Try.ntmps63
  go_wp2_with fail
  refine (rin_yes _ _ _ _ h0 h1).mono ?_
  rintro e w' ⟨rfl, rfl⟩
  go_wp2_with fail
  refine (rin_yes _ _ _ _ h2 h3).mono ?_
  rintro e w' ⟨rfl, rfl⟩
  go_wp2_with fail
  refine (rlong_any _ _ _ h2 h3).mono ?_
  rintro e w' ⟨rfl, rfl⟩
  go_wp2_with fail
  refine (rin_yes _ _ _ _ h4 h5).mono ?_
  rintro e w' ⟨rfl, rfl⟩
  go_wp2_with fail
  go_loop [8, 9] (fun a b => ∃ z : Int, 1900 ≤ z ∧ z ≤ y ∧ b = .int .i64 z ∧ a = .int .i64 (d - 1 + first z)) (fun _ b => (y - intOf b).toNat)
  case atStart => exact ⟨1900, by omega, h0, rfl, by rw [first_1900]; go_num⟩
  case round =>
    obtain ⟨z, hz0, hz1, rfl, rfl⟩ := hrel
    have hfz := first_bd z hz0 (by omega)
    by_cases hlt : z < y
    · have HS := Lib.hid (first_succ z)
      rcases feb_cases z with ⟨g1, g2⟩ | ⟨g1, g2⟩
      all_goals
        have G1 := Lib.hid g1
        have G2 := Lib.hid g2
        clear g1 g2
        go_wp2_with fail
        refine (rleap_any _ _).mono ?_
        rintro e w' ⟨rfl, rfl⟩
        rw [G2.out]
        go_wp2
        go_round
        case rel => exact ⟨z + 1, by omega, by omega, rfl, by have := HS.out; have := G1.out; go_num⟩
        case measure => simp [intOf]; omega
    · obtain rfl : z = y := by omega
      go_wp2_with fail
      go_loop [8, 10] (fun a b => ∃ k : Int, 1 ≤ k ∧ k ≤ m ∧ b = .int .i64 k ∧ a = .int .i64 (d - 1 + first z + cum z k)) (fun _ b => (m - intOf b).toNat)
      case atStart => exact ⟨1, by omega, h2, rfl, by rw [cum_one]; go_num⟩
      case round =>
        obtain ⟨k, hk0, hk1, rfl, rfl⟩ := hrel
        have hcb := cum_bd z k hk0 (by omega)
        have hfb := feb_bd z
        by_cases hlt2 : k < m
        · have HS := Lib.hid (cum_succ z k hk0 (by omega))
          have hmk := mlen_bd z k
          go_wp2_with (go_at_call 62; refine (rlong_any _ _ _ hk0 (by omega)).mono ?_; rintro e w' ⟨rfl, rfl⟩)
          go_round
          case rel => exact ⟨k + 1, by omega, by omega, rfl, by have := HS.out; go_num⟩
          case measure => simp [intOf]; omega
        · obtain rfl : k = m := by omega
          by_cases hdn : dnum z k d ≤ 99999
          · have hd2 : d - 1 + first z + cum z k ≤ 99999 := by have := HD.out; omega
            have hd3 : 0 ≤ d - 1 + first z + cum z k := by omega
            obtain ⟨e1, e2⟩ := HF.out.1 hdn
            have E1 := Lib.hid e1
            have E2 := Lib.hid e2
            clear e1 e2 hdn
            go_wp2_with fail
            refine (rday_yes _ _ hd3 hd2).mono ?_
            rintro e w' ⟨rfl, rfl⟩
            go_wp2
            go_ret2
            exact ⟨ret_pair (by rw [E1.out, HD.out]; omega) E2.out.symm, rfl⟩
          · have hd2 : 99999 < d - 1 + first z + cum z k := by have := HD.out; omega
            obtain ⟨e1, e2⟩ := HF.out.2 (by omega)
            have E1 := Lib.hid e1
            have E2 := Lib.hid e2
            clear e1 e2 hdn
            go_wp2_with fail
            refine (rday_no _ _ (by omega)).mono ?_
            rintro e w' ⟨rfl, rfl⟩
            go_wp2
            go_ret2
            exact ⟨ret_pair E1.out.symm E2.out.symm, rfl⟩

set_option maxHeartbeats 1000000 in
theorem rof_any (y m d : Int) (w : World) :
    Calls Try.prog 63 #[.int .i64 y, .int .i64 m, .int .i64 d] w fun e w' =>
      e = .returned (.tuple #[.int .i64 (ofV y m d), .int .i64 (ofE y m d)]) ∧ w = w' := by
  by_cases h : 1900 ≤ y ∧ y ≤ 2173 ∧ 1 ≤ m ∧ m ≤ 12 ∧ 1 ≤ d ∧ d ≤ mlen y m
  · obtain ⟨h0, h1, h2, h3, h4, h5⟩ := h
    exact rof_mid y m d w h0 h1 h2 h3 h4 h5
  · obtain ⟨e1, e2⟩ := of_zero y m d h
    rw [e1, e2]
    clear e1 e2
    by_cases hy : 1900 ≤ y ∧ y ≤ 2173
    · obtain ⟨h0, h1⟩ := hy
      by_cases hm : 1 ≤ m ∧ m ≤ 12
      · obtain ⟨h2, h3⟩ := hm
        have HM := Lib.hid (show d < 1 ∨ mlen y m < d by omega)
        clear h
        go_enter Try.func63, Try.ntmps63
        go_wp2_with fail
        refine (rin_yes _ _ _ _ h0 h1).mono ?_
        rintro e w' ⟨rfl, rfl⟩
        go_wp2_with fail
        refine (rin_yes _ _ _ _ h2 h3).mono ?_
        rintro e w' ⟨rfl, rfl⟩
        go_wp2_with fail
        refine (rlong_any _ _ _ h2 h3).mono ?_
        rintro e w' ⟨rfl, rfl⟩
        go_wp2_with fail
        refine (rin_no _ _ _ _ HM.out).mono ?_
        rintro e w' ⟨rfl, rfl⟩
        go_wp2
        go_ret2
        exact ⟨rfl, rfl⟩
      · have HM := Lib.hid (show m < 1 ∨ 12 < m by omega)
        clear h hm
        go_enter Try.func63, Try.ntmps63
        go_wp2_with fail
        refine (rin_yes _ _ _ _ h0 h1).mono ?_
        rintro e w' ⟨rfl, rfl⟩
        go_wp2_with fail
        refine (rin_no _ _ _ _ HM.out).mono ?_
        rintro e w' ⟨rfl, rfl⟩
        go_wp2
        go_ret2
        exact ⟨rfl, rfl⟩
    · have HY := Lib.hid (show y < 1900 ∨ 2173 < y by omega)
      clear h hy
      go_enter Try.func63, Try.ntmps63
      go_wp2_with fail
      refine (rin_no _ _ _ _ HY.out).mono ?_
      rintro e w' ⟨rfl, rfl⟩
      go_wp2
      go_ret2
      exact ⟨rfl, rfl⟩
end Go.Proofs.Ytainmmdlbajpnaa.Dt
