/-
  Margin: what counts of a loss, the greatest element; the walks of margin.counted and greatest.
-/
import Derived.Test.YtmljjofpbonplaaMg6
namespace Go.Proofs.Ytmljjofpbonplaa.Mg
open Go.RowKit Go.Proofs.Ytmljjofpbonplaa Go.Proofs.Ytmljjofpbonplaa.Nm

/-- what counts, as the code computes it -/
def cntP (x y : Int) : Int := if 0 < x * y then (x * y + 999) / 1000 else -(-(x * y) / 1000)
/-- what counts, as the document says it -/
def cnt (x y : Int) : Int := if x ≤ 0 then 0 else (x * y + 999) / 1000
theorem cntP_pos (x y : Int) (hx : 0 < x) (hy : 0 < y) : cntP x y = cnt x y := by
  have h := Int.mul_pos hx hy
  unfold cntP cnt
  rw [if_neg (by omega : ¬ x ≤ 0), if_pos h]
theorem cntP_neg (x y : Int) (hx : x ≤ 0) (hy : 0 < y) : cntP x y ≤ 0 := by
  have h : x * y ≤ 0 := Int.mul_nonpos_of_nonpos_of_nonneg hx (by omega)
  unfold cntP
  rw [if_neg (by omega)]
  generalize x * y = z at *
  omega
theorem cntP_max (x y m : Int) (hy : 0 < y) (hm : 0 ≤ m) : max m (cntP x y) = max m (cnt x y) := by
  by_cases h : 0 < x
  · rw [cntP_pos x y h hy]
  · have h1 := cntP_neg x y (by omega) hy
    have h2 : cnt x y = 0 := by unfold cnt; rw [if_pos (by omega)]
    omega
theorem w64 (n : Int) (h : -9223372036854775808 ≤ n ∧ n ≤ 9223372036854775807) : wrap64 n = n := by unfold wrap64; omega
theorem quo1000 (z : Int) : z.tdiv 1000 = if 0 < z then z / 1000 else -(-z / 1000) := by
  by_cases h0 : 0 < z
  · rw [if_pos h0, Int.tdiv_eq_ediv_of_nonneg (by omega)]
  · have e : z.tdiv 1000 = -(-z / 1000) := by
      have : z = -(-z) := by omega
      rw [this, Int.neg_tdiv, Int.tdiv_eq_ediv_of_nonneg (by omega)]
      simp
    rw [if_neg h0, e]

set_option maxRecDepth 100000 in
set_option maxHeartbeats 1000000 in
theorem counted_any (x y : Int) (w : World) (hx : -1000000000000000 ≤ x ∧ x ≤ 1000000000000000) (hy : 1 ≤ y ∧ y ≤ 1000) :
    Calls Try.prog 52 #[.int .i64 x, .int .i64 y] w fun e w' => e = .returned (.int .i64 (cntP x y)) ∧ w' = w := by
  have h1 := mul_bd x y 1000000000000000 1000 hx (by omega)
  have HP := Lib.hid (show cntP x y = if 0 < x * y then (x * y + 999) / 1000 else -(-(x * y) / 1000) from rfl)
  go_enter Try.func52, Try.ntmps52
  have n1 : wrap64 (x * y) = x * y := w64 _ (by omega)
  go_wp2_with fail
  all_goals
    rw [n1] at *
    go_ret
    refine ⟨ret_int ?_, rfl⟩
    rw [HP.out, quo1000]
    clear HP
    generalize x * y = z at *
    split <;> (try unfold wrap64) <;> (try split) <;> omega

/-- the first of the greatest elements that are greater than 0, and its index -/
def bestUp (f : Nat → Int) : Nat → Int × Int
  | 0 => (-1, 0)
  | k + 1 => if (bestUp f k).2 < f k then (k, f k) else bestUp f k

set_option maxRecDepth 100000 in
set_option maxHeartbeats 1000000 in
theorem greatest_any (a : Option Addr) (n cap : Nat) (f : Nat → Int) (w : World) (hn : n ≤ 1000) (hA : IntsAt w a n f) :
    Calls Try.prog 53 #[.slice a n cap, .int .i64 0] w fun e w' => e = .returned (.tuple #[.int .i64 (bestUp f n).1, .int .i64 (bestUp f n).2]) ∧ w' = w := by
  go_enter Try.func53, Try.ntmps53
  go_wp2_with fail
  go_loopw [1, 6, 7, 8, 11] (fun m t _ _ c wr => ∃ k : Nat, k ≤ n ∧ c = .int .i64 k ∧ wr = w ∧ Hid (t = .int .i64 (bestUp f k).1) ∧ Hid (m = .int .i64 (bestUp f k).2)) (fun _ _ _ _ c _ => n - (intOf c).toNat)
  case atStart => exact ⟨0, by omega, rfl, rfl, rfl, rfl⟩
  case round =>
    obtain ⟨k, hk, rfl, rfl, ht, hm⟩ := hrel
    obtain rfl := ht.out
    obtain rfl := hm.out
    clear ht hm
    have HS := Lib.hid (show bestUp f (k + 1) = if (bestUp f k).2 < f k then ((k : Int), f k) else bestUp f k from rfl)
    by_cases hlt : k < n
    · obtain ⟨b, off, rfl, q0⟩ := hA k hlt
      by_cases hg : (bestUp f k).2 < f k
      · have HS2 : Hid (bestUp f (k + 1) = ((k : Int), f k)) := by unfold Hid; rw [HS.out, if_pos hg]
        go_wp2
        go_roundw
        case rel => exact ⟨k + 1, by omega, by go_num, by simp, by rw [HS2.out]; rfl, by rw [HS2.out]; rfl⟩
        case measure => simp [intOf]; omega
      · have HS2 : Hid (bestUp f (k + 1) = bestUp f k) := by unfold Hid; rw [HS.out, if_neg hg]
        go_wp2
        go_roundw
        case rel => exact ⟨k + 1, by omega, by go_num, by simp, by rw [HS2.out]; rfl, by rw [HS2.out]; rfl⟩
        case measure => simp [intOf]; omega
    · obtain rfl : k = n := by omega
      go_wp2
      refine bodyPost_ret (v := .tuple #[.int .i64 (bestUp f k).1, .int .i64 (bestUp f k).2]) (by simp [results, Try.results53, go_sem]) rfl ⟨rfl, rfl⟩

theorem bestUp_nonneg (f : Nat → Int) (n : Nat) : 0 ≤ (bestUp f n).2 := by
  induction n with
  | zero => simp [bestUp]
  | succ n ih =>
    rw [bestUp]
    split
    · show 0 ≤ f n
      omega
    · exact ih
theorem bestUp_max (f : Nat → Int) (n : Nat) : (bestUp f (n + 1)).2 = max (bestUp f n).2 (f n) := by
  rw [bestUp]
  split
  · show f n = _
    omega
  · omega
/-- the same greatest number, when the elements differ only below 0 -/
theorem bestUp_congr (f g : Nat → Int) (n : Nat) (h : ∀ i, i < n → ∀ m, 0 ≤ m → max m (f i) = max m (g i)) : bestUp f n = bestUp g n := by
  induction n with
  | zero => rfl
  | succ n ih =>
    have e := ih (fun i hi => h i (by omega))
    have h0 := bestUp_nonneg f n
    have h1 := h n (by omega) _ h0
    rw [bestUp, bestUp, ← e]
    by_cases hg : (bestUp f n).2 < f n
    · have : f n = g n := by omega
      rw [if_pos hg, this, if_pos (by omega)]
    · rw [if_neg hg, if_neg (by omega)]
end Go.Proofs.Ytmljjofpbonplaa.Mg
