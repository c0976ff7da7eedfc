/-
  Compress, plain: tearing step by step.
-/
import Derived.Test.YtpphiohppgphnaaCz3
namespace Go.Proofs.Ytpphiohppgphnaa.Cz

/-- the amount of a trade when k of the cycle's trades are done -/
def amK (l : List Tr) (cs : List Nat) (m : Int) (i k : Nat) : Int := if (cs.take k).contains i then (gt l i).amt - m else (gt l i).amt
theorem amK_zero (l : List Tr) (cs : List Nat) (m : Int) (i : Nat) : amK l cs m i 0 = (gt l i).amt := by unfold amK; simp
theorem take_succ_has (cs : List Nat) (i k : Nat) (hk : k < cs.length) : (cs.take (k + 1)).contains i = ((cs.take k).contains i || decide (tn cs k = i)) := by
  rw [List.take_succ_eq_append_getElem hk, tn_at cs k hk, Bool.eq_iff_iff, List.contains_iff_mem, List.mem_append, List.mem_singleton, Bool.or_eq_true, List.contains_iff_mem, decide_eq_true_iff]
  exact or_congr Iff.rfl ⟨fun h => h.symm, fun h => h.symm⟩
theorem amK_other {l : List Tr} {cs : List Nat} {m : Int} {i k : Nat} (hk : k < cs.length) (h : tn cs k ≠ i) : amK l cs m i (k + 1) = amK l cs m i k := by
  unfold amK
  rw [take_succ_has cs i k hk, decide_eq_false h, Bool.or_false]
theorem not_before {cs : List Nat} (hn : cs.Nodup) {k : Nat} (hk : k < cs.length) : (cs.take k).contains (tn cs k) = false := by
  rw [Bool.eq_false_iff]
  intro h
  rw [List.contains_iff_mem, List.mem_iff_getElem] at h
  obtain ⟨j, hj, e⟩ := h
  rw [List.length_take] at hj
  rw [List.getElem_take, tn_at cs k hk] at e
  rw [List.nodup_iff_pairwise_ne, List.pairwise_iff_getElem] at hn
  exact hn j k (by omega) hk (by omega) e
theorem amK_this {l : List Tr} {cs : List Nat} {m : Int} {i k : Nat} (hn : cs.Nodup) (hk : k < cs.length) (h : tn cs k = i) : amK l cs m i k = (gt l i).amt ∧ amK l cs m i (k + 1) = (gt l i).amt - m := by
  subst h
  unfold amK
  rw [take_succ_has cs _ k hk, decide_eq_true rfl, Bool.or_true, not_before hn hk]
  exact ⟨rfl, rfl⟩
theorem cut_all (l : List Tr) (cs : List Nat) (m : Int) (i : Nat) (hi : i < l.length) : gt (cut l cs m cs.length) i = ⟨(gt l i).fr, (gt l i).to_, (gt l i).con, amK l cs m i cs.length⟩ := by
  rw [cut_at l cs m _ i hi]
  unfold amK tear
  split <;> rfl
def tornK (l : List Tr) (cs : List Nat) (m : Int) (i : Nat) : List Tr := ((cut l cs m cs.length).take i).filter fun x => decide (0 < x.amt)
theorem tornK_all (l : List Tr) (cs : List Nat) : tornK l cs (lst l cs cs.length) l.length = torn l cs := by
  unfold tornK torn
  rw [← cut_len l cs (lst l cs cs.length) cs.length, List.take_length]
theorem tornK_succ (l : List Tr) (cs : List Nat) (m : Int) (i : Nat) (hi : i < l.length) : tornK l cs m (i + 1) = if 0 < amK l cs m i cs.length then tornK l cs m i ++ [⟨(gt l i).fr, (gt l i).to_, (gt l i).con, amK l cs m i cs.length⟩] else tornK l cs m i := by
  unfold tornK
  have hi' : i < (cut l cs m cs.length).length := by rw [cut_len]; exact hi
  rw [List.take_succ_eq_append_getElem hi', List.filter_append, ← gt_at _ i hi', cut_all l cs m i hi, List.filter_cons, List.filter_nil]
  by_cases h : 0 < amK l cs m i cs.length
  · rw [if_pos (decide_eq_true h), if_pos h]
  · rw [if_neg (by simpa using h), if_neg h, List.append_nil]
theorem tornK_le (l : List Tr) (cs : List Nat) (m : Int) (i : Nat) : (tornK l cs m i).length ≤ i := by
  unfold tornK
  exact Nat.le_trans (List.length_filter_le _ _) (by rw [List.length_take]; omega)
theorem lst_range {l : List Tr} {cs : List Nat} (h : ∀ j, j < cs.length → 1 ≤ (gt l (tn cs j)).amt) : ∀ k, k ≤ cs.length → 1 ≤ lst l cs k ∧ lst l cs k ≤ 1125899906842624 := by
  intro k
  induction k with
  | zero => intro _; exact ⟨by show (1 : Int) ≤ 1125899906842624; omega, by show (1125899906842624 : Int) ≤ _; omega⟩
  | succ k ih =>
    intro hk
    have h1 := ih (by omega)
    have h2 := h k (by omega)
    rw [lst_succ l cs k (by omega)]
    omega
end Go.Proofs.Ytpphiohppgphnaa.Cz
