/-
  The walks of package date: Parts.
-/
import Derived.Test.YtainmmdlbajpnaaDateW2
namespace Go.Proofs.Ytainmmdlbajpnaa.Dt
open Go.RowKit Go.Proofs.Ytainmmdlbajpnaa

theorem results_tmp4 {fn : Func} {t u v x : Tmp} (h : fn.results = #[.tmp t, .tmp u, .tmp v, .tmp x]) (tmps : Array Value) (P : Program) (w : World) :
    (results fn tmps).run P w = .ok (.tuple #[tmps.getD t undef, tmps.getD u undef, tmps.getD v undef, tmps.getD x undef]) w := by simp [results, h]

set_option maxHeartbeats 400000 in
theorem parts_no (n : Int) (w : World) (h : n < 0 ∨ 99999 < n) :
    Calls Try.prog 29 #[.int .i64 n] w fun e w' => e = .returned (.tuple #[.int .i64 0, .int .i64 0, .int .i64 0, .int .i64 2]) ∧ w = w' := by
  by_cases hn : n < 0
  all_goals
    go_enter Try.func29, Try.ntmps29
    go_wp2
    refine bodyPost_ret (results_tmp4 rfl _ _ _) rfl ?_
    exact ⟨rfl, rfl⟩

theorem guess (n z : Int) (h : n < first (z + 1)) (hz : 1900 ≤ z) : 1900 + n / 366 ≤ z := by
  have := first_upper (z + 1) (by omega)
  omega

set_option maxHeartbeats 1000000 in
theorem parts_yes (y m d n : Int) (w : World) (hD : IsDate y m d n) (hn : n ≤ 99999) :
    Calls Try.prog 29 #[.int .i64 n] w fun e w' => e = .returned (.tuple #[.int .i64 y, .int .i64 m, .int .i64 d, .int .i64 0]) ∧ Below w.heap.size w w' := by
  have hr := hD.range
  have hy := hD.year
  have hm := hD.month
  obtain ⟨a1, a2, a3, a4, a5, a6, a7⟩ := hD
  have hg := guess n y hy.2 a1
  have h366 : 0 ≤ n / 366 ∧ n / 366 ≤ 273 := by omega
  have HN := Lib.hid a7
  clear a7
  go_enter Try.func29, Try.ntmps29
  go_wp2_with fail
  go_loop [2] (fun t => ∃ z : Int, 1900 ≤ z ∧ z ≤ y ∧ t = .int .i64 z) (fun t => (y - intOf t).toNat)
  case atStart => exact ⟨_, by omega, hg, rfl⟩
  case round =>
    obtain ⟨z, hz1, hz2, rfl⟩ := hrel
    by_cases hc : z < y
    · have hle : first (z + 1) ≤ n := by have := first_mono (z + 1) y (by omega); omega
      go_wp2_with (go_at_call 48; refine (first_any _ _ (by omega) (by omega)).mono ?_; rintro e w' ⟨rfl, rfl⟩)
      go_round
      case rel => exact ⟨z + 1, by omega, by omega, rfl⟩
      case measure => simp [intOf]; omega
    · obtain rfl : z = y := by omega
      have hf := first_bd z a1 (by omega)
      go_wp2_with fail
      refine (first_any _ _ (by omega) (by omega)).mono ?_
      rintro e w' ⟨rfl, rfl⟩
      go_wp2_with fail
      refine (first_any _ _ (by omega) (by omega)).mono ?_
      rintro e w' ⟨rfl, rfl⟩
      go_wp2_with fail
      refine (lengths_any _ _).mono ?_
      rintro e w2 ⟨rfl, hb2⟩
      have HC := Lib.hid (cell_lens z w2)
      have HB2 : Below w.heap.size w (w2.alloc (.cells (lens z) 61)) := hb2.alloc hb2.size _
      go_wp2_with fail
      unfold lens at HC HB2
      generalize w2.alloc _ = wo at HC HB2 ⊢
      go_loop [3, 4] (fun a b => ∃ k : Nat, 1 ≤ k ∧ (k : Int) ≤ m ∧ a = .int .i64 k ∧ b = .int .i64 (n - first z - cum z k + 1)) (fun a _ => (m - intOf a).toNat)
      case atStart => exact ⟨1, by omega, by omega, rfl, by simp [cum]⟩
      case round =>
        obtain ⟨k, hk1, hk2, rfl, rfl⟩ := hrel
        have hc := HC.out k (by omega)
        have hcb := cum_bd0 z k (by omega)
        have hlb := lrow_bd z k
        have hlr : lrow z k = mlen z k := by simp [lrow]; omega
        have HR := Lib.hid (cum_row z k (by omega))
        by_cases hlt : (k : Int) < m
        · have hmono := cum_mono z k m (by omega) hlt (by omega)
          have ht : lrow z k < n - first z - cum z k + 1 := by omega
          clear hlr hmono
          go_wp2
          go_round
          case rel => exact ⟨k + 1, by omega, by omega, by go_num, by have := HR.out; go_num⟩
          case measure => simp [intOf]; omega
        · obtain rfl : (k : Int) = m := by omega
          have ht : n - first z - cum z k + 1 ≤ lrow z k := by omega
          have HE := Lib.hid (show n - first z - cum z k + 1 = d by have := HN.out; unfold dnum at this; omega)
          clear hlr
          go_wp2
          refine bodyPost_ret (results_tmp4 rfl _ _ _) rfl ?_
          exact ⟨by rw [← HE.out]; rfl, HB2⟩
end Go.Proofs.Ytainmmdlbajpnaa.Dt
