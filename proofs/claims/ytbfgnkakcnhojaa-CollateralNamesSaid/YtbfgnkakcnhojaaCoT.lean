/-
  Collateral, plain: what Put returns is right, and Take undoes it.
-/
import Derived.Test.YtbfgnkakcnhojaaCoQ
namespace Go.Proofs.Ytbfgnkakcnhojaa.Co
open Go.RowKit Go.Proofs.Ytbfgnkakcnhojaa Go.Proofs.Ytbfgnkakcnhojaa.Ls Go.Proofs.Ytbfgnkakcnhojaa.Kb
open Go.Proofs.Ytbfgnkakcnhojaa.Nm hiding ret_bool ret_int

/-- a holding more -/
def ins (L : List (ByteArray × Int)) (j : Nat) (x : ByteArray × Int) : List (ByteArray × Int) := L.take j ++ x :: L.drop j
theorem ins_len (L : List (ByteArray × Int)) (j : Nat) (x : ByteArray × Int) : (ins L j x).length = L.length + 1 := by
  unfold ins
  rw [List.length_append, List.length_take, List.length_cons, List.length_drop]
  omega
theorem gi_ins (L : List (ByteArray × Int)) (j : Nat) (hj : j ≤ L.length) (x : ByteArray × Int) (k : Nat) : gi (ins L j x) k = if k < j then gi L k else if k = j then x else gi L (k - 1) := by
  have hl : (L.take j).length = j := by rw [List.length_take]; omega
  rw [gi_get, ins]
  by_cases h : k < j
  · rw [if_pos h, List.getElem?_append_left (by omega), List.getElem?_take, if_pos h, ← gi_get]
  · rw [if_neg h, List.getElem?_append_right (by omega), hl]
    by_cases e : k = j
    · rw [if_pos e, e, Nat.sub_self]
      rfl
    · rw [if_neg e, show k - j = (k - 1 - j) + 1 by omega, List.getElem?_cons_succ, List.getElem?_drop, show j + (k - 1 - j) = k - 1 by omega, ← gi_get]
theorem er_ins (L : List (ByteArray × Int)) (j : Nat) (hj : j ≤ L.length) (x : ByteArray × Int) : (ins L j x).take j ++ (ins L j x).drop (j + 1) = L := by
  have hl : (L.take j).length = j := by rw [List.length_take]; omega
  unfold ins
  rw [List.take_left' hl, show L.take j ++ x :: L.drop j = (L.take j ++ [x]) ++ L.drop j by simp, List.drop_left' (by rw [List.length_append, hl]; rfl), List.take_append_drop]
theorem pu_pu (L : List (ByteArray × Int)) (i : Nat) (hi : i < L.length) (v : Int) : pu (pu L i v) i (gi L i).2 = L := by
  have hl : (L.take i).length = i := by rw [List.length_take]; omega
  have h1 : (gi (pu L i v) i).1 = (gi L i).1 := by rw [gi_pu L i hi, if_pos rfl]
  have h2 : (pu L i v).take i = L.take i := by unfold pu; rw [List.take_left' hl]
  have h3 : (pu L i v).drop (i + 1) = L.drop (i + 1) := by
    unfold pu
    rw [show L.take i ++ ((gi L i).1, v) :: L.drop (i + 1) = (L.take i ++ [((gi L i).1, v)]) ++ L.drop (i + 1) by simp, List.drop_left' (by rw [List.length_append, hl]; rfl)]
  show (pu L i v).take i ++ ((gi (pu L i v) i).1, (gi L i).2) :: (pu L i v).drop (i + 1) = L
  rw [h1, h2, h3]
  exact pu_self L i hi
theorem lt_other {a t : ByteArray} (hne : a ≠ t) (h : lt a t = false) : lt t a = true := by
  rcases hb (lt t a) with k | k
  · exact k
  · exact absurd (lt_total h k) hne
theorem hol_ins {L : List (ByteArray × Int)} (h : holB L = true) {t : ByteArray} {n : Int} {J : Nat} (hJ : J ≤ L.length) (p2 : ∀ i, i < J → lt (gi L i).1 t = true) (p3 : ∀ i, J ≤ i → i < L.length → lt (gi L i).1 t = false) (hno : ∀ i, i < L.length → (gi L i).1 ≠ t)
    (ht : nm t = true) (n0 : 1 ≤ n) (n1 : n ≤ 1048576) (h32 : L.length + 1 ≤ 32) : holB (ins L J (t, n)) = true := by
  have hs := holB_sorted h
  refine holB_mk (by rw [ins_len]; exact h32) ?_ ?_
  · intro j hj hjl
    rw [ins_len] at hjl
    show lt (gi _ (j - 1)).1 (gi _ j).1 = true
    rw [gi_ins L J hJ, gi_ins L J hJ]
    rcases Nat.lt_trichotomy j J with g | g | g
    · rw [if_pos (by omega), if_pos g]
      exact hs j hj (by omega)
    · rw [if_pos (by omega), if_neg (by omega), if_pos g]
      exact p2 (j - 1) (by omega)
    · rw [if_neg (by omega), if_neg (show ¬ j < J by omega), if_neg (show ¬ j = J by omega)]
      by_cases e : j - 1 = J
      · rw [if_pos e]
        have h1 := p3 (j - 1) (by omega) (by omega)
        have h2 := hno (j - 1) (by omega)
        exact lt_other h2 h1
      · rw [if_neg e]
        exact hs (j - 1) (by omega) (by omega)
  · intro j hj
    rw [ins_len] at hj
    rw [gi_ins L J hJ]
    split
    · exact holB_at h j (by omega)
    · split
      · exact ⟨ht, n0, n1⟩
      · exact holB_at h (j - 1) (by omega)
theorem fnL_is {L : List (ByteArray × Int)} (h : holB L = true) {t : ByteArray} {i : Nat} (hi : i < L.length) (e : (gi L i).1 = t) : fnL L t = some i := by
  have hs := holB_sorted h
  refine first_uniq (fidx_first _ _ _) (.inl ⟨i, rfl, hi, e, fun j hj e2 => ?_⟩)
  have := hs.inj j i (by omega) hi (e2.trans e.symm)
  omega
theorem ask_zero {L : List (ByteArray × Int)} {t : ByteArray} {n : Int} (h : askE L t n = 0) : holB L = true ∧ nm t = true ∧ 1 ≤ n ∧ n ≤ 1048576 := by
  rcases askE_cases L t n with ⟨_, a, b, c, d⟩ | g | g
  · exact ⟨a, b, c, d⟩
  · omega
  · omega
/-- Put's result: right holdings, out of which taking the units gives the old ones -/
theorem put_facts {L : List (ByteArray × Int)} {t : ByteArray} {n : Int} (h : putE L t n = 0) : putV L t n = putL L t n ∧ holB L = true ∧ nm t = true ∧ 1 ≤ n ∧ ∃ j, fnL (putL L t n) t = some j ∧ j < (putL L t n).length ∧ holB (putL L t n) = true ∧
    n ≤ (gi (putL L t n) j).2 ∧ (gi (putL L t n) j).2 ≤ 1048576 ∧ wo (putL L t n) j n = L ∧ (putL L t n).length ≤ L.length + 1 ∧ L.length ≤ (putL L t n).length ∧ (∀ k, k < (putL L t n).length → (gi (putL L t n) k).1 = t ∨ ∃ i, i < L.length ∧ (gi (putL L t n) k).1 = (gi L i).1) := by
  have hV : putV L t n = putL L t n := by unfold putV; rw [h, if_pos rfl]
  have ha : askE L t n = 0 := by
    unfold putE at h
    split at h
    · assumption
    · exact h
  obtain ⟨hB, hnt, n0, n1⟩ := ask_zero ha
  unfold putE at h
  rw [if_pos ha] at h
  obtain ⟨J, p1, p2, p3, p4⟩ := placeL hB t
  rcases p4 with ⟨f1, f2, _, f4⟩ | ⟨f1, _, f3⟩
  · rw [f1] at h
    have hle : ¬ 1048576 < (gi L J).2 + n := by
      intro g
      simp only [if_pos g] at h
      omega
    have hat := (holB_at hB J f2).2
    have hL : putL L t n = pu L J ((gi L J).2 + n) := by unfold putL; rw [f1]; rfl
    have hg : gi (pu L J ((gi L J).2 + n)) J = ((gi L J).1, (gi L J).2 + n) := by rw [gi_pu L J f2, if_pos rfl]
    have hB2 := hol_pu hB J f2 ((gi L J).2 + n) (by omega) (by omega)
    refine ⟨hV, hB, hnt, n0, J, ?_⟩
    rw [hL, hg]
    refine ⟨fnL_is hB2 (by rw [pu_len L J f2]; exact f2) (by rw [hg]; exact f4), by rw [pu_len L J f2]; exact f2, hB2, by show n ≤ (gi L J).2 + n; omega, by show (gi L J).2 + n ≤ 1048576; omega, ?_, by rw [pu_len L J f2]; omega, by rw [pu_len L J f2]; exact Nat.le_refl _, fun k hk => ?_⟩
    · rw [wo_pu, hg, show (gi L J).2 + n - n = (gi L J).2 by omega, if_neg (by omega)]
      exact pu_pu L J f2 _
    · rw [pu_len L J f2] at hk
      refine .inr ⟨k, hk, ?_⟩
      rw [gi_pu L J f2]
      split
      · rename_i e
        rw [e]
      · rfl
  · rw [f1] at h
    have hle : ¬ 32 < L.length + 1 := by
      intro g
      simp only [if_pos g] at h
      omega
    have hL : putL L t n = ins L J (t, n) := by unfold putL; rw [f1, pl_is L t J p1 p2 p3]; rfl
    have hg : gi (ins L J (t, n)) J = (t, n) := by rw [gi_ins L J p1, if_neg (by omega), if_pos rfl]
    have hB2 := hol_ins (n := n) hB p1 p2 p3 f3 hnt n0 n1 (by omega)
    refine ⟨hV, hB, hnt, n0, J, ?_⟩
    rw [hL, hg]
    refine ⟨fnL_is hB2 (by rw [ins_len]; omega) (by rw [hg]), by rw [ins_len]; omega, hB2, Int.le_refl _, n1, ?_, by rw [ins_len]; exact Nat.le_refl _, by rw [ins_len]; omega, fun k hk => ?_⟩
    · rw [wo_pu, hg, show ((t, n) : ByteArray × Int).2 - n = 0 from Int.sub_self n, if_pos rfl]
      exact er_ins L J p1 _
    · rw [ins_len] at hk
      rw [gi_ins L J p1]
      split
      · exact .inr ⟨k, by omega, rfl⟩
      · split
        · exact .inl rfl
        · exact .inr ⟨k - 1, by omega, rfl⟩
end Go.Proofs.Ytbfgnkakcnhojaa.Co
