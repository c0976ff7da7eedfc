/-
  The walks of package date: AddMonths.
-/
import Derived.Test.YtainmmdlbajpnaaDateW3
namespace Go.Proofs.Ytainmmdlbajpnaa.Dt
open Go.RowKit Go.Proofs.Ytainmmdlbajpnaa

/-- the month, counted from January 1900 on -/
def mon (y m k : Int) : Int := 12 * (y - 1900) + m - 1 + k
/-- the day of the month behind so many months -/
def addD (y m d k : Int) (last : Bool) : Int :=
  if (last && d == mlen y m) = true then mlen (1900 + mon y m k / 12) (mon y m k % 12 + 1) else min d (mlen (1900 + mon y m k / 12) (mon y m k % 12 + 1))
def addOk (y m d k : Int) (last : Bool) : Bool :=
  decide (0 ≤ mon y m k ∧ mon y m k / 12 ≤ 273 ∧ dnum (1900 + mon y m k / 12) (mon y m k % 12 + 1) (addD y m d k last) ≤ 99999)
def addV (y m d k : Int) (last : Bool) : Int := if addOk y m d k last then dnum (1900 + mon y m k / 12) (mon y m k % 12 + 1) (addD y m d k last) else 0
def addE (y m d k : Int) (last : Bool) : Int := if addOk y m d k last then 0 else 40

theorem addD_bd (y m d k : Int) (last : Bool) (h : 1 ≤ d) : 1 ≤ addD y m d k last ∧ addD y m d k last ≤ mlen (1900 + mon y m k / 12) (mon y m k % 12 + 1) := by
  have := mlen_bd (1900 + mon y m k / 12) (mon y m k % 12 + 1)
  unfold addD
  split <;> omega

theorem add_end (y m d k D : Int) (last : Bool) (h : 1 ≤ d) (h0 : 0 ≤ 12 * (y - 1900) + m - 1 + k) (h1 : (12 * (y - 1900) + m - 1 + k) / 12 ≤ 273) (hA : addD y m d k last = D) :
    (ofV (1900 + (12 * (y - 1900) + m - 1 + k) / 12) ((12 * (y - 1900) + m - 1 + k) % 12 + 1) D = addV y m d k last ∧ ofE (1900 + (12 * (y - 1900) + m - 1 + k) / 12) ((12 * (y - 1900) + m - 1 + k) % 12 + 1) D = 0 ∧ addE y m d k last = 0) ∨
    (ofE (1900 + (12 * (y - 1900) + m - 1 + k) / 12) ((12 * (y - 1900) + m - 1 + k) % 12 + 1) D = 2 ∧ addV y m d k last = 0 ∧ addE y m d k last = 40) := by
  have hb := addD_bd y m d k last h
  subst hA
  have hv := of_val (1900 + mon y m k / 12) (mon y m k % 12 + 1) (addD y m d k last) (by unfold mon; omega) (by unfold mon; omega) (by omega) (by omega) hb.1 hb.2
  by_cases g : dnum (1900 + mon y m k / 12) (mon y m k % 12 + 1) (addD y m d k last) ≤ 99999
  · have ho : addOk y m d k last = true := by unfold addOk; exact decide_eq_true ⟨h0, h1, g⟩
    obtain ⟨e1, e2⟩ := hv.1 g
    left
    unfold addV addE
    rw [if_pos ho, if_pos ho]
    exact ⟨e1, e2, rfl⟩
  · have ho : ¬ addOk y m d k last = true := by unfold addOk; rw [decide_eq_true_iff]; exact fun x => g x.2.2
    obtain ⟨e1, e2⟩ := hv.2 (by omega)
    right
    unfold addV addE
    rw [if_neg ho, if_neg ho]
    exact ⟨e2, rfl, rfl⟩

theorem add_call (y m d k D : Int) (last : Bool) (w : World) (h : 1 ≤ d) (h0 : 0 ≤ 12 * (y - 1900) + m - 1 + k) (h1 : (12 * (y - 1900) + m - 1 + k) / 12 ≤ 273) (hA : addD y m d k last = D) :
    Calls Try.prog 31 #[.int .i64 (1900 + (12 * (y - 1900) + m - 1 + k) / 12), .int .i64 ((12 * (y - 1900) + m - 1 + k) % 12 + 1), .int .i64 D] w fun e w' =>
      ∃ v g : Int, e = .returned (.tuple #[.int .i64 v, .int .i64 g]) ∧ (g = 0 ∧ v = addV y m d k last ∧ addE y m d k last = 0 ∨ g = 2 ∧ addV y m d k last = 0 ∧ addE y m d k last = 40) ∧ Below w.heap.size w w' := by
  refine (of_any _ _ _ w).mono ?_
  rintro e w' ⟨rfl, hb⟩
  refine ⟨_, _, rfl, ?_, hb⟩
  rcases add_end y m d k D last h h0 h1 hA with ⟨e1, e2, e3⟩ | ⟨e2, e1, e3⟩
  · exact .inl ⟨e2, e1, e3⟩
  · exact .inr ⟨e2, e1, e3⟩

set_option maxHeartbeats 1000000 in
theorem add_mid (y m d n k : Int) (last : Bool) (w : World) (hD : IsDate y m d n) (hn : n ≤ 99999) (hk0 : -4000 ≤ k) (hk1 : k ≤ 4000) (h0 : 0 ≤ mon y m k) (h1 : mon y m k / 12 ≤ 273) :
    Calls Try.prog 13 #[.int .i64 n, .int .i64 k, .bool last] w fun e w' => e = .returned (.tuple #[.int .i64 (addV y m d k last), .int .i64 (addE y m d k last)]) ∧ Below w.heap.size w w' := by
  have hd := hD
  obtain ⟨a1, a2, a3, a4, a5, a6, a7⟩ := hd
  have hix := index_len y m a3 a4
  have hml := mlen_bd y m
  clear a7
  have hn0 := hD.range
  have HD := Lib.hid hD
  clear hD
  unfold mon at h0 h1
  go_enter Try.func13, Try.ntmps13
  go_wp2_with fail
  refine (parts_yes y m d n _ HD.out hn).mono ?_
  rintro e w1 ⟨rfl, hb1⟩
  go_wp2_with fail
  refine (lengths_any y _).mono ?_
  rintro e w2 ⟨rfl, hb2⟩
  go_wp2_with fail
  refine (lengths_any _ _).mono ?_
  rintro e w3 ⟨rfl, hb3⟩
  have hix2 := index_len (1900 + (12 * (y - 1900) + m - 1 + k) / 12) ((12 * (y - 1900) + m - 1 + k) % 12 + 1) (by omega) (by omega)
  have hml2 := mlen_bd (1900 + (12 * (y - 1900) + m - 1 + k) / 12) ((12 * (y - 1900) + m - 1 + k) % 12 + 1)
  go_wp2_with fail
  all_goals
    refine (add_call y m d k _ last _ a5 h0 h1 ?_).mono ?_
    focus
      first
        | (have hl : last = true := by assumption
           have hq : (d == mlen y m) = true := by assumption
           rw [addD, hl, hq]
           rfl)
        | (have hl : last = true := by assumption
           have hq : (d == mlen y m) = false := by assumption
           rw [addD, hl, hq]
           exact Int.min_eq_right (by unfold mon; omega))
        | (have hl : last = true := by assumption
           have hq : (d == mlen y m) = false := by assumption
           rw [addD, hl, hq]
           exact Int.min_eq_left (by unfold mon; omega))
        | (have hl : ¬ last = true := by assumption
           rw [addD, if_neg (by simp [hl])]
           exact Int.min_eq_right (by unfold mon; omega))
        | (have hl : ¬ last = true := by assumption
           rw [addD, if_neg (by simp [hl])]
           exact Int.min_eq_left (by unfold mon; omega))
    rintro e w4 ⟨v, g, rfl, ⟨rfl, e1, e3⟩ | ⟨rfl, e1, e3⟩, hb4⟩
    all_goals
      have E1 := Lib.hid e1
      have E3 := Lib.hid e3
      clear e1 e3
      go_wp2
      go_ret2
      exact ⟨ret_pair (by first | exact E1.out | exact E1.out.symm) E3.out.symm, hb1.trans ((hb2.mono hb1.size).trans ((hb3.mono (by have := hb1.size; have := hb2.size; omega)).trans (hb4.mono (by have := hb1.size; have := hb2.size; have := hb3.size; omega))))⟩

theorem add_out (y m d k : Int) (last : Bool) (h : ¬ (0 ≤ mon y m k ∧ mon y m k / 12 ≤ 273)) : addV y m d k last = 0 ∧ addE y m d k last = 40 := by
  have ho : ¬ addOk y m d k last = true := by unfold addOk; rw [decide_eq_true_iff]; exact fun x => h ⟨x.1, x.2.1⟩
  unfold addV addE
  rw [if_neg ho, if_neg ho]
  exact ⟨rfl, rfl⟩

set_option maxHeartbeats 1000000 in
theorem add_yes (y m d n k : Int) (last : Bool) (w : World) (hD : IsDate y m d n) (hn : n ≤ 99999) (hk0 : -4000 ≤ k) (hk1 : k ≤ 4000) :
    Calls Try.prog 13 #[.int .i64 n, .int .i64 k, .bool last] w fun e w' => e = .returned (.tuple #[.int .i64 (addV y m d k last), .int .i64 (addE y m d k last)]) ∧ Below w.heap.size w w' := by
  by_cases hm : 0 ≤ mon y m k ∧ mon y m k / 12 ≤ 273
  · exact add_mid y m d n k last w hD hn hk0 hk1 hm.1 hm.2
  · obtain ⟨e1, e2⟩ := add_out y m d k last hm
    rw [e1, e2]
    clear e1 e2
    have hd := hD
    obtain ⟨a1, a2, a3, a4, a5, a6, a7⟩ := hd
    have hix := index_len y m a3 a4
    have hml := mlen_bd y m
    have hn0 := hD.range
    clear a7
    have HD := Lib.hid hD
    clear hD
    unfold mon at hm
    by_cases hz : 12 * (y - 1900) + m - 1 + k < 0
    all_goals
      have hz2 : 12 * (y - 1900) + m - 1 + k < 0 ∨ 273 < (12 * (y - 1900) + m - 1 + k) / 12 := by omega
      clear hm
      go_enter Try.func13, Try.ntmps13
      go_wp2_with fail
      refine (parts_yes y m d n _ HD.out hn).mono ?_
      rintro e w1 ⟨rfl, hb1⟩
      go_wp2_with fail
      refine (lengths_any y _).mono ?_
      rintro e w2 ⟨rfl, hb2⟩
      go_wp2
      go_ret2
      exact ⟨rfl, hb1.trans (hb2.mono hb1.size)⟩

set_option maxHeartbeats 1000000 in
theorem add_no (n k : Int) (last : Bool) (w : World) (h : n < 0 ∨ 99999 < n ∨ k < -4000 ∨ 4000 < k) :
    Calls Try.prog 13 #[.int .i64 n, .int .i64 k, .bool last] w fun e w' => e = .returned (.tuple #[.int .i64 0, .int .i64 2]) ∧ Below w.heap.size w w' := by
  by_cases hn : n < 0 ∨ 99999 < n
  · have H := Lib.hid h
    have HN := Lib.hid hn
    clear h hn
    go_enter Try.func13, Try.ntmps13
    go_wp2_with fail
    refine (parts_no n _ HN.out).mono ?_
    rintro e w1 ⟨rfl, rfl⟩
    go_wp2
    go_ret2
    exact ⟨rfl, Below.refl _ _⟩
  · obtain ⟨y, m, d, hD⟩ := date_exists n (by omega) (by omega)
    have HD := Lib.hid hD
    have hn2 : n ≤ 99999 := by omega
    clear hD
    by_cases hk : k < -4000
    all_goals
      have hk2 : k < -4000 ∨ 4000 < k := by omega
      clear h hn
      go_enter Try.func13, Try.ntmps13
      go_wp2_with fail
      refine (parts_yes y m d n _ HD.out hn2).mono ?_
      rintro e w1 ⟨rfl, hb1⟩
      go_wp2
      go_ret2
      exact ⟨rfl, hb1⟩
end Go.Proofs.Ytainmmdlbajpnaa.Dt
