/-
  Collateral, plain: Put's result beside the holdings, one by one.
-/
import Derived.Test.YtbfgnkakcnhojaaCoU
namespace Go.Proofs.Ytbfgnkakcnhojaa.Co
open Go.RowKit Go.Proofs.Ytbfgnkakcnhojaa Go.Proofs.Ytbfgnkakcnhojaa.Ls Go.Proofs.Ytbfgnkakcnhojaa.Kb
open Go.Proofs.Ytbfgnkakcnhojaa.Nm hiding ret_bool ret_int

/-- Put's result M at j: the asset's units grew, or the holding is new -/
def Grew (L M : List (ByteArray × Int)) (t : ByteArray) (j : Nat) : Prop :=
  (M.length = L.length ∧ j < L.length ∧ (gi L j).1 = t ∧ (∀ k, k < L.length → k ≠ j → (gi L k).1 ≠ t) ∧ ∀ k, k ≠ j → gi M k = gi L k) ∨
  (M.length = L.length + 1 ∧ j ≤ L.length ∧ (∀ k, k < L.length → (gi L k).1 ≠ t) ∧ (∀ k, k < j → gi M k = gi L k) ∧ ∀ k, j < k → gi M k = gi L (k - 1))
theorem put_grew {L : List (ByteArray × Int)} {t : ByteArray} {n : Int} (h : putE L t n = 0) : ∃ j, Grew L (putL L t n) t j ∧ (gi (putL L t n) j).1 = t ∧ j < (putL L t n).length ∧ takE (putL L t n) t n = 0 ∧ takV (putL L t n) t n = L ∧ putV L t n = putL L t n := by
  obtain ⟨hV, hB, _, n0, j, g1, g2, g3, g4, g5, g6, _, _, _⟩ := put_facts h
  obtain ⟨t1, t2⟩ := take_ok g3 g1 n n0 g4
  refine ⟨j, ?_, (fnL_at g1).2, g2, t1, by rw [t2, g6], hV⟩
  obtain ⟨J, p1, p2, p3, p4⟩ := placeL hB t
  rcases p4 with ⟨f1, f2, _, f4⟩ | ⟨f1, _, f3⟩
  · have hL : putL L t n = pu L J ((gi L J).2 + n) := by unfold putL; rw [f1]; rfl
    rw [hL] at g1 g3 ⊢
    have hj : j = J := by
      have := fnL_is g3 (t := t) (i := J) (by rw [pu_len L J f2]; exact f2) (by rw [gi_pu L J f2, if_pos rfl]; exact f4)
      rw [g1] at this
      injection this
    subst hj
    refine .inl ⟨pu_len L j f2 _, f2, f4, fun k hk hne e => hne ((holB_sorted hB).inj k j hk f2 (e.trans f4.symm)), fun k hk => by rw [gi_pu L j f2, if_neg hk]⟩
  · have hL : putL L t n = ins L J (t, n) := by unfold putL; rw [f1, pl_is L t J p1 p2 p3]; rfl
    rw [hL] at g1 g3 ⊢
    have hj : j = J := by
      have := fnL_is g3 (t := t) (i := J) (by rw [ins_len]; omega) (by rw [gi_ins L J p1, if_neg (by omega), if_pos rfl])
      rw [g1] at this
      injection this
    subst hj
    refine .inr ⟨ins_len L j _, p1, f3, fun k hk => by rw [gi_ins L j p1, if_pos hk], fun k hk => by rw [gi_ins L j p1, if_neg (by omega), if_neg (by omega)]⟩
/-- where the law's second index stands at the start of a round -/
def posB (L M : List (ByteArray × Int)) (j k : Nat) : Nat := if k ≤ j then k else if M.length = L.length then (if k = j + 1 then j else k) else k - 1
theorem pos_facts {L M : List (ByteArray × Int)} {t : ByteArray} {j : Nat} (h : Grew L M t j) (hjt : (gi M j).1 = t) (k : Nat) (hk : k < M.length) :
    ((gi M k).1 = t ∧ posB L M j (k + 1) = posB L M j k) ∨ ((gi M k).1 ≠ t ∧ ∃ Q, (Q = posB L M j k ∨ (Q = posB L M j k + 1 ∧ posB L M j k < L.length ∧ (gi L (posB L M j k)).1 = t)) ∧ Q < L.length ∧ (gi L Q).1 ≠ t ∧ gi M k = gi L Q ∧ posB L M j (k + 1) = Q + 1) := by
  by_cases hkj : k = j
  · subst hkj
    refine .inl ⟨hjt, ?_⟩
    unfold posB
    rcases h with ⟨h1, _⟩ | ⟨h1, _⟩
    · rw [if_neg (by omega), if_pos h1, if_pos rfl, if_pos (Nat.le_refl _)]
    · rw [if_neg (by omega), if_neg (by omega), if_pos (Nat.le_refl _)]
      omega
  · rcases h with ⟨h1, h2, h3, h4, h5⟩ | ⟨h1, h2, h3, h4, h5⟩
    · have e := h5 k hkj
      have hne := h4 k (by omega) hkj
      refine .inr ⟨by rw [e]; exact hne, k, ?_, by omega, hne, e, ?_⟩
      · unfold posB
        by_cases hk1 : k ≤ j
        · rw [if_pos hk1]; exact .inl rfl
        · rw [if_neg hk1, if_pos h1]
          by_cases hk2 : k = j + 1
          · rw [if_pos hk2]
            exact .inr ⟨hk2, h2, h3⟩
          · rw [if_neg hk2]
            exact .inl rfl
      · unfold posB
        by_cases hk1 : k + 1 ≤ j
        · rw [if_pos hk1]
        · rw [if_neg hk1, if_pos h1, if_neg (by omega)]
    · rcases Nat.lt_or_ge k j with g | g
      · have e := h4 k g
        have hne := h3 k (by omega)
        refine .inr ⟨by rw [e]; exact hne, k, .inl ?_, by omega, hne, e, ?_⟩
        · unfold posB; rw [if_pos (by omega)]
        · unfold posB; rw [if_pos (by omega)]
      · have e := h5 k (by omega)
        have hne := h3 (k - 1) (by omega)
        refine .inr ⟨by rw [e]; exact hne, k - 1, .inl ?_, by omega, hne, e, ?_⟩
        · unfold posB; rw [if_neg (by omega), if_neg (by omega)]
        · unfold posB; rw [if_neg (by omega), if_neg (by omega)]; omega
end Go.Proofs.Ytbfgnkakcnhojaa.Co
