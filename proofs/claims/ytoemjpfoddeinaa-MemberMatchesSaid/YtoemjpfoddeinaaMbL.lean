/-
  Member: what Use and Move leave is a Go value.
-/
import Derived.Test.YtoemjpfoddeinaaMbI
import Derived.Test.YtoemjpfoddeinaaMbK
namespace Go.Proofs.Ytoemjpfoddeinaa.Mb
open Go.RowKit Go.Proofs.Ytoemjpfoddeinaa Go.Proofs.Ytoemjpfoddeinaa.Ls Go.Proofs.Ytoemjpfoddeinaa.Kb
open Go.Proofs.Ytoemjpfoddeinaa.Nm hiding ret_bool ret_int

theorem addU_ok {l : List Ac} {n : Int} (i : Nat) (hi : i < l.length) (h : ∀ a ∈ l, OkA a) (hb : ∀ y ∈ addU l i n, i64 y.us) : ∀ y ∈ addU l i n, OkA y := by
  intro y hy
  have h0 := h _ (ga_mem l i hi)
  have hu := hb y hy
  rcases List.mem_or_eq_of_mem_set hy with hm | rfl
  · exact h y hm
  · exact ⟨h0.nm, h0.lim, hu⟩
theorem used_b {m : Me} (hv : val m = true) : ∀ y ∈ m.ac, -1125899906842624 ≤ y.us ∧ y.us ≤ 1125899906842624 := fun y hy => (okA_bound ((val_parts hv).2.2 y hy)).2
theorem has_pos {m : Me} {t : ByteArray} (hv : val m = true) (h : has (nas m.ac) t = true) : pos (nas m.ac) t < m.ac.length := by
  have := (pos_has _ _ (val_parts hv).1 h).1
  simpa [nas] using this
theorem ok_use (t : ByteArray) (n : Int) (m : Me) (h : OkM m) (hv : val m = true) (h0 : (fUse t n m).2 = 0) : OkM (fUse t n m).1 := by
  unfold fUse at h0 ⊢
  split at h0
  · rename_i g1
    split at h0
    · rename_i g2
      split at h0
      · cases h0
      · rename_i g3
        rw [if_pos g1, if_pos g2, if_neg g3]
        have hp := has_pos hv g1
        have hn := sig_b g2
        refine okM_ac h _ (by rw [addU_len]; exact h.len) (addU_ok _ hp h.ac fun y hy => ?_)
        have := addU_bound (d := 1125899906842624) _ hp (used_b hv) hn y hy
        unfold i64
        omega
    · cases h0
  · cases h0
theorem ok_move (fr tt : ByteArray) (n : Int) (m : Me) (h : OkM m) (hv : val m = true) (h0 : (fMove fr tt n m).2 = 0) : OkM (fMove fr tt n m).1 := by
  unfold fMove at h0 ⊢
  split at h0
  · rename_i g1
    split at h0
    · rename_i g2
      split at h0
      · cases h0
      · rename_i g3
        rw [if_pos g1, if_pos g2, if_neg g3]
        simp only [Bool.and_eq_true] at g1 g2
        have hp := has_pos hv g1.1
        have hq := has_pos hv g1.2
        have hn := sig_b g2.2
        have h1 := addU_bound (d := 1125899906842624) (n := -n) _ hp (used_b hv) (by omega)
        have h2 := addU_bound (d := 1125899906842624) (n := n) (pos (nas m.ac) tt) (by rw [addU_len]; exact hq) h1 hn
        refine okM_ac h _ (by show (addU (addU _ _ _) _ _).length ≤ _; rw [addU_len, addU_len]; exact h.len) (addU_ok _ (by rw [addU_len]; exact hq) (addU_ok _ hp h.ac fun y hy => ?_) fun y hy => ?_)
        · have := h1 y hy
          unfold i64
          omega
        · have := h2 y hy
          unfold i64
          omega
    · cases h0
  · cases h0
end Go.Proofs.Ytoemjpfoddeinaa.Mb
