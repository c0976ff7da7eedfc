/-
  Member: what a change leaves is a Go value.
-/
import Derived.Test.YtoemjpfoddeinaaMb9
namespace Go.Proofs.Ytoemjpfoddeinaa.Mb
open Go.RowKit Go.Proofs.Ytoemjpfoddeinaa Go.Proofs.Ytoemjpfoddeinaa.Ls Go.Proofs.Ytoemjpfoddeinaa.Kb
open Go.Proofs.Ytoemjpfoddeinaa.Nm hiding ret_bool ret_int

theorem mon_i64 {n : Int} (h : mon n = true) : i64 n := by
  unfold mon at h
  simp at h
  unfold i64
  omega
theorem sig_b {n : Int} (h : sig n = true) : -1125899906842624 ≤ n ∧ n ≤ 1125899906842624 := by
  unfold sig at h
  simp at h
  omega
theorem okM_ac {m : Me} (h : OkM m) (l : List Ac) (hl : l.length ≤ 1000) (ha : ∀ a ∈ l, OkA a) : OkM { m with ac := l } := ⟨h.nm, h.ro, h.lim, hl, ha⟩
theorem ok_lim (lim : Int) (m : Me) (h : OkM m) (_ : val m = true) (h0 : (fLim lim m).2 = 0) : OkM (fLim lim m).1 := by
  unfold fLim at h0 ⊢
  split at h0
  · rename_i g
    rw [if_pos g]
    exact ⟨h.nm, h.ro, mon_i64 g, h.len, h.ac⟩
  · cases h0
theorem ok_sus (is : Bool) (m : Me) (h : OkM m) (_ : val m = true) (h0 : (fSus is m).2 = 0) : OkM (fSus is m).1 := by
  unfold fSus at h0 ⊢
  split at h0
  · cases h0
  · rename_i g
    rw [if_neg g]
    exact ⟨h.nm, h.ro, h.lim, h.len, h.ac⟩
theorem ok_open (t : ByteArray) (cl : Bool) (n : Int) (ht : t.size ≤ maxLen) (m : Me) (h : OkM m) (hv : val m = true) (h0 : (fOpen t cl n m).2 = 0) : OkM (fOpen t cl n m).1 := by
  have hl : m.ac.length ≤ 16 := by
    unfold val at hv
    simp only [Bool.and_eq_true, decide_eq_true_eq] at hv
    exact hv.1.1.1.2
  unfold fOpen at h0 ⊢
  split at h0
  · cases h0
  · rename_i g1
    split at h0
    · cases h0
    · rename_i g2
      split at h0
      · cases h0
      · rename_i g3
        split at h0
        · cases h0
        · rename_i g4
          rw [if_neg g1, if_neg g2, if_neg g3, if_neg g4]
          refine okM_ac h _ (by simp; omega) fun a ha => ?_
          rcases List.mem_append.1 ha with ha | ha
          · exact h.ac a (List.mem_of_mem_take ha)
          · rcases List.mem_cons.1 ha with rfl | ha
            · refine ⟨ht, ?_, ?_⟩
              · have : mon n = true := by
                  cases k : mon n
                  · rw [k] at g2; simp at g2
                  · rfl
                exact mon_i64 this
              · show i64 0
                unfold i64
                omega
            · exact h.ac a (List.mem_of_mem_drop ha)
theorem ok_close (t : ByteArray) (m : Me) (h : OkM m) (_ : val m = true) (h0 : (fClose t m).2 = 0) : OkM (fClose t m).1 := by
  have hl := h.len
  unfold fClose at h0 ⊢
  split at h0
  · rename_i g1
    split at h0
    · rename_i g2
      rw [if_pos g1, if_pos g2]
      refine okM_ac h _ (by simp; omega) fun a ha => ?_
      rcases List.mem_append.1 ha with ha | ha
      · exact h.ac a (List.mem_of_mem_take ha)
      · exact h.ac a (List.mem_of_mem_drop ha)
    · cases h0
  · cases h0
end Go.Proofs.Ytoemjpfoddeinaa.Mb
