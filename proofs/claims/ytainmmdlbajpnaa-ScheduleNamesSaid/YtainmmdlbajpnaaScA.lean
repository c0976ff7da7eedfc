/-
  Plain arithmetic of schedules: the days that are multiples of so many months away, in order; how many of them lie inside.
-/
import Derived.Test.YtainmmdlbajpnaaDateW4
namespace Go.Proofs.Ytainmmdlbajpnaa.Dt

theorem addE_cases (y m d k : Int) (last : Bool) : (addOk y m d k last = true ∧ addE y m d k last = 0) ∨ (addOk y m d k last = false ∧ addE y m d k last = 40 ∧ addV y m d k last = 0) := by
  unfold addE addV
  cases h : addOk y m d k last <;> simp

theorem lex_lt {y m d n y' m' d' n' : Int} (h : IsDate y m d n) (h' : IsDate y' m' d' n') (hl : y < y' ∨ (y = y' ∧ (m < m' ∨ (m = m' ∧ d < d')))) : n < n' := by
  have a := h.year
  have a' := h'.year
  have b := h.month
  have b' := h'.month
  rcases hl with k | ⟨rfl, k | ⟨rfl, k⟩⟩
  · have := first_mono (y + 1) y' (by omega)
    omega
  · have := cum_mono y m m' h.2.2.1 k (by have := h'.2.2.2.1; omega)
    omega
  · have := h.num
    have := h'.num
    unfold dnum at *
    omega

theorem add_date {y m d n k : Int} {last : Bool} (hD : IsDate y m d n) (ho : addOk y m d k last = true) :
    IsDate (1900 + mon y m k / 12) (mon y m k % 12 + 1) (addD y m d k last) (addV y m d k last) ∧ 0 ≤ addV y m d k last ∧ addV y m d k last ≤ 99999 := by
  have hv : addV y m d k last = dnum (1900 + mon y m k / 12) (mon y m k % 12 + 1) (addD y m d k last) := by unfold addV; rw [if_pos ho]
  have hO : 0 ≤ mon y m k ∧ mon y m k / 12 ≤ 273 ∧ dnum (1900 + mon y m k / 12) (mon y m k % 12 + 1) (addD y m d k last) ≤ 99999 := by
    unfold addOk at ho
    exact of_decide_eq_true ho
  obtain ⟨a1, a2, a3, a4, a5, a6, a7⟩ := hD
  obtain ⟨b1, b2, b3⟩ := hO
  have hb := addD_bd y m d k last a5
  have hI : IsDate (1900 + mon y m k / 12) (mon y m k % 12 + 1) (addD y m d k last) (addV y m d k last) := by
    rw [hv]
    exact IsDate.mk (by omega) (by omega) (by omega) (by omega) hb.1 hb.2
  exact ⟨hI, hI.range.1, by rw [hv]; exact b3⟩

/-- later months, later days -/
theorem add_mono {y m d n k k' : Int} {last : Bool} (hD : IsDate y m d n) (h : addOk y m d k last = true) (h' : addOk y m d k' last = true) (hk : k < k') : addV y m d k last < addV y m d k' last := by
  refine lex_lt (add_date hD h).1 (add_date hD h').1 ?_
  unfold mon
  omega

theorem add_zero {y m d n : Int} {last : Bool} (hD : IsDate y m d n) (hn : n ≤ 99999) : addOk y m d 0 last = true ∧ addV y m d 0 last = n := by
  obtain ⟨a1, a2, a3, a4, a5, a6, a7⟩ := hD
  have e1 : 1900 + mon y m 0 / 12 = y := by unfold mon; omega
  have e2 : mon y m 0 % 12 + 1 = m := by unfold mon; omega
  have e3 : addD y m d 0 last = d := by
    unfold addD
    rw [e1, e2]
    split
    · rename_i hq
      rw [Bool.and_eq_true, beq_iff_eq] at hq
      omega
    · exact Int.min_eq_left a6
  have ho : addOk y m d 0 last = true := by
    unfold addOk
    rw [e1, e2, e3]
    exact decide_eq_true ⟨by unfold mon; omega, by unfold mon; omega, by rw [a7]; exact hn⟩
  refine ⟨ho, ?_⟩
  unfold addV
  rw [if_pos ho, e1, e2, e3, a7]

theorem add_far {y m d k : Int} {last : Bool} (h1 : 1900 ≤ y) (h2 : y ≤ 2173) (h3 : 1 ≤ m) (h4 : m ≤ 12) (h : k < -4000 ∨ 4000 < k) : addOk y m d k last = false := by
  unfold addOk
  refine decide_eq_false ?_
  unfold mon
  omega

end Go.Proofs.Ytainmmdlbajpnaa.Dt

namespace Go.Proofs.Ytainmmdlbajpnaa.Sc
open Go.Proofs.Ytainmmdlbajpnaa.Dt

/-- the day that is k steps away, and whether it exists -/
def vk (y m d st : Int) (last : Bool) (k : Nat) : Int := addV y m d (k * st) last
def ok (y m d st : Int) (last : Bool) (k : Nat) : Bool := addOk y m d (k * st) last
/-- is a day still ahead of the other end? -/
def far (back : Bool) (S E v : Int) : Bool := if back then decide (S < v) else decide (v < E)
/-- N regular days lie inside -/
structure Cnt (y m d st : Int) (last back : Bool) (S E : Int) (N : Nat) : Prop where
  all : ∀ k, 1 ≤ k → k ≤ N → ok y m d st last k = true ∧ far back S E (vk y m d st last k) = true
  stop : ¬ (ok y m d st last (N + 1) = true ∧ far back S E (vk y m d st last (N + 1)) = true)

theorem least (p : Nat → Bool) (K : Nat) : (∀ k, 1 ≤ k → k ≤ K → p k = true) ∨ ∃ N, N < K ∧ (∀ k, 1 ≤ k → k ≤ N → p k = true) ∧ ¬ p (N + 1) = true := by
  induction K with
  | zero => exact .inl (fun k h1 h2 => by omega)
  | succ K ih =>
    rcases ih with h | ⟨N, h1, h2⟩
    · by_cases hp : p (K + 1) = true
      · refine .inl (fun k h1 h2 => ?_)
        by_cases e : k = K + 1
        · rw [e]; exact hp
        · exact h k h1 (by omega)
      · exact .inr ⟨K, by omega, h, hp⟩
    · exact .inr ⟨N, by omega, h2⟩

theorem far_out (k : Nat) (st : Int) (hk : 4001 ≤ k) (hs : st ≠ 0) : k * st < -4000 ∨ 4000 < k * st := by
  rcases Int.lt_or_gt_of_ne hs with h | h
  · have : (k : Int) * st ≤ k * (-1) := Int.mul_le_mul_of_nonneg_left (by omega) (by omega)
    omega
  · have : (k : Int) * 1 ≤ k * st := Int.mul_le_mul_of_nonneg_left (by omega) (by omega)
    omega

theorem ok_out {y m d st n : Int} {last : Bool} (hD : IsDate y m d n) (hs : st ≠ 0) (k : Nat) (hk : 4001 ≤ k) : ok y m d st last k = false := by
  obtain ⟨a1, a2, a3, a4, a5, a6, a7⟩ := hD
  exact add_far a1 a2 a3 a4 (far_out k st hk hs)

theorem cnt_exists {y m d st n : Int} {last back : Bool} {S E : Int} (hD : IsDate y m d n) (hs : st ≠ 0) : ∃ N, N ≤ 4000 ∧ Cnt y m d st last back S E N := by
  rcases least (fun k => ok y m d st last k && far back S E (vk y m d st last k)) 4001 with h | ⟨N, h1, h2, h3⟩
  · have := h 4001 (by omega) (by omega)
    rw [ok_out hD hs 4001 (by omega)] at this
    cases this
  · simp only [Bool.and_eq_true] at h2 h3
    exact ⟨N, by omega, h2, h3⟩

/-- the first day that does not exist -/
theorem end_exists {y m d st n : Int} {last : Bool} (hD : IsDate y m d n) (hs : st ≠ 0) : ∃ M, 1 ≤ M ∧ M ≤ 4001 ∧ (∀ k, 1 ≤ k → k < M → ok y m d st last k = true) ∧ ok y m d st last M = false := by
  rcases least (fun k => ok y m d st last k) 4001 with h | ⟨N, h1, h2, h3⟩
  · have := h 4001 (by omega) (by omega)
    rw [ok_out hD hs 4001 (by omega)] at this
    cases this
  · exact ⟨N + 1, by omega, by omega, fun k a b => h2 k a (by omega), by simpa using h3⟩

theorem Cnt.unique {y m d st : Int} {last back : Bool} {S E : Int} {N N' : Nat} (h : Cnt y m d st last back S E N) (h' : Cnt y m d st last back S E N') : N = N' := by
  rcases Nat.lt_trichotomy N N' with k | k | k
  · exact absurd (h'.all (N + 1) (by omega) (by omega)) h.stop
  · exact k
  · exact absurd (h.all (N' + 1) (by omega) (by omega)) h'.stop

/-- the days of a description: S, the inner days, E -/
def innerL (y m d st : Int) (last : Bool) (n : Nat) : List Int := (List.range n).map fun k => vk y m d st last (k + 1)
def datesL (y m d st : Int) (last back : Bool) (S E : Int) (n : Nat) : List Int := S :: ((if back then (innerL y m d st last n).reverse else innerL y m d st last n) ++ [E])
def stubB (y m d st : Int) (last : Bool) (other : Int) (N : Nat) : Bool := !ok y m d st last (N + 1) || vk y m d st last (N + 1) != other
/-- how many inner days are kept -/
def kept (stub long : Bool) (N : Nat) : Nat := if stub && long && decide (0 < N) then N - 1 else N

theorem len_innerL (y m d st : Int) (last : Bool) (n : Nat) : (innerL y m d st last n).length = n := by simp [innerL]
theorem len_datesL (y m d st : Int) (last back : Bool) (S E : Int) (n : Nat) : (datesL y m d st last back S E n).length = n + 2 := by
  unfold datesL
  cases back <;> simp [len_innerL]

/-- the i-th day -/
theorem at_inner (y m d st : Int) (last : Bool) (n i : Nat) (h : i < n) : (innerL y m d st last n)[i]? = some (vk y m d st last (i + 1)) := by
  simp [innerL, h]
theorem at_zero (y m d st : Int) (last back : Bool) (S E : Int) (n : Nat) : (datesL y m d st last back S E n)[0]? = some S := rfl
theorem at_last (y m d st : Int) (last back : Bool) (S E : Int) (n : Nat) : (datesL y m d st last back S E n)[n + 1]? = some E := by
  unfold datesL
  cases back <;> simp [len_innerL]
theorem at_mid (y m d st : Int) (last back : Bool) (S E : Int) (n k : Nat) (h1 : 1 ≤ k) (h2 : k ≤ n) :
    (datesL y m d st last back S E n)[k]? = some (vk y m d st last (if back then n + 1 - k else k)) := by
  obtain ⟨j, rfl⟩ : ∃ j, k = j + 1 := ⟨k - 1, by omega⟩
  unfold datesL
  rw [List.getElem?_cons_succ]
  cases back
  · rw [if_neg (by simp), List.getElem?_append_left (by rw [len_innerL]; omega), at_inner _ _ _ _ _ _ _ (by omega)]
    simp
  · rw [if_pos rfl, List.getElem?_append_left (by rw [List.length_reverse, len_innerL]; omega), List.getElem?_reverse (by rw [len_innerL]; omega), len_innerL, at_inner _ _ _ _ _ _ _ (by omega)]
    simp only [if_true]
    congr 2
    omega

end Go.Proofs.Ytainmmdlbajpnaa.Sc
