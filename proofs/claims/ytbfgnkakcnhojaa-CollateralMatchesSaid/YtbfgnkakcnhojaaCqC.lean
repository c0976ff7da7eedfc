/-
  Collateral, plain: what the loops of the reference's Put and Take lay.
-/
import Derived.Test.YtbfgnkakcnhojaaCoT
namespace Go.Proofs.Ytbfgnkakcnhojaa.Co
open Go.RowKit Go.Proofs.Ytbfgnkakcnhojaa Go.Proofs.Ytbfgnkakcnhojaa.Ls Go.Proofs.Ytbfgnkakcnhojaa.Kb
open Go.Proofs.Ytbfgnkakcnhojaa.Nm hiding ret_bool ret_int

theorem take_snoc' (L : List (ByteArray × Int)) (k : Nat) (hk : k < L.length) : L.take (k + 1) = L.take k ++ [gi L k] := by rw [gi_at L k hk]; exact List.take_succ_eq_append_getElem hk
/-- Take's list behind k rounds; was the asset met? -/
def tkL (L : List (ByteArray × Int)) (t : ByteArray) (n : Int) : Nat → List (ByteArray × Int)
  | 0 => []
  | k + 1 => if (gi L k).1 = t then (if 0 < (gi L k).2 - n then tkL L t n k ++ [((gi L k).1, (gi L k).2 - n)] else tkL L t n k) else tkL L t n k ++ [gi L k]
def isK (L : List (ByteArray × Int)) (t : ByteArray) : Nat → Bool
  | 0 => false
  | k + 1 => if (gi L k).1 = t then true else isK L t k
theorem tkL_len (L : List (ByteArray × Int)) (t : ByteArray) (n : Int) (k : Nat) : (tkL L t n k).length ≤ k := by
  induction k with
  | zero => exact Nat.le_refl _
  | succ k ih =>
    unfold tkL
    split
    · split
      · rw [List.length_append]; simp; omega
      · omega
    · rw [List.length_append]; simp; omega
theorem isK_no {L : List (ByteArray × Int)} {t : ByteArray} (h : ∀ i, i < L.length → (gi L i).1 ≠ t) : ∀ k, k ≤ L.length → isK L t k = false := by
  intro k
  induction k with
  | zero => intro _; rfl
  | succ k ih =>
    intro hk
    unfold isK
    rw [if_neg (h k (by omega))]
    exact ih (by omega)
theorem isK_yes {L : List (ByteArray × Int)} {t : ByteArray} {j : Nat} (h : (gi L j).1 = t) : ∀ k, j < k → isK L t k = true := by
  intro k
  induction k with
  | zero => intro h; omega
  | succ k ih =>
    intro hk
    unfold isK
    split
    · rfl
    · rename_i e
      refine ih ?_
      rcases Nat.eq_or_lt_of_le (show j ≤ k by omega) with g | g
      · subst g
        exact absurd h e
      · exact g
theorem tkL_is {L : List (ByteArray × Int)} {t : ByteArray} {n : Int} {j : Nat} (hs : Sorted L.length fun i => (gi L i).1) (hj : j < L.length) (ht : (gi L j).1 = t) (hn : n ≤ (gi L j).2) : tkL L t n L.length = wo L j n := by
  have hne : ∀ i, i < L.length → i ≠ j → (gi L i).1 ≠ t := fun i hi h e => h (hs.inj i j hi hj (e.trans ht.symm))
  have h1 : ∀ k, k ≤ j → tkL L t n k = L.take k := by
    intro k
    induction k with
    | zero => intro _; rfl
    | succ k ih =>
      intro hk
      unfold tkL
      rw [if_neg (hne k (by omega) (by omega)), ih (by omega), ← take_snoc' L k (by omega)]
  rw [wo_pu]
  by_cases e : (gi L j).2 - n = 0
  · rw [if_pos e]
    have h2 : ∀ k, j + 1 ≤ k → k ≤ L.length → tkL L t n k = (L.take j ++ L.drop (j + 1)).take (k - 1) := by
      intro k
      induction k with
      | zero => intro h; omega
      | succ k ih =>
        intro h1' hk
        unfold tkL
        by_cases g : k = j
        · subst g
          rw [if_pos ht, if_neg (by omega), h1 k (Nat.le_refl _), Nat.add_sub_cancel, List.take_append_of_le_length (by rw [List.length_take]; omega), List.take_take, Nat.min_self]
        · rw [if_neg (hne k (by omega) g), ih (by omega) (by omega), Nat.add_sub_cancel]
          have := take_snoc' (L.take j ++ L.drop (j + 1)) (k - 1) (by rw [er_len L j hj]; omega)
          rw [show k - 1 + 1 = k by omega, gi_er L j hj, if_neg (by omega), show k - 1 + 1 = k by omega] at this
          exact this.symm
    rw [h2 L.length (by omega) (Nat.le_refl _), List.take_of_length_le (by rw [er_len L j hj]; omega)]
  · rw [if_neg e]
    have h2 : ∀ k, j + 1 ≤ k → k ≤ L.length → tkL L t n k = (pu L j ((gi L j).2 - n)).take k := by
      intro k
      induction k with
      | zero => intro h; omega
      | succ k ih =>
        intro h1' hk
        have hp := take_snoc' (pu L j ((gi L j).2 - n)) k (by rw [pu_len L j hj]; omega)
        rw [gi_pu L j hj] at hp
        unfold tkL
        by_cases g : k = j
        · subst g
          rw [if_pos rfl] at hp
          rw [if_pos ht, if_pos (by omega), h1 k (Nat.le_refl _), hp]
          congr 1
          unfold pu
          rw [List.take_append_of_le_length (by rw [List.length_take]; omega), List.take_take, Nat.min_self]
        · rw [if_neg g] at hp
          rw [if_neg (hne k (by omega) g), ih (by omega) (by omega), hp]
    rw [h2 L.length (by omega) (Nat.le_refl _), List.take_of_length_le (by rw [pu_len L j hj]; exact Nat.le_refl _)]
/-- Take's outcome, as its loop finds it -/
theorem take_end {L : List (ByteArray × Int)} {t : ByteArray} {n : Int} (h : askE L t n = 0) (hB : holB L = true) (hu : ∀ i, i < L.length → (gi L i).1 = t → n ≤ (gi L i).2) :
    (isK L t L.length = false ∧ takE L t n = 6 ∧ takV L t n = []) ∨ (isK L t L.length = true ∧ takE L t n = 0 ∧ takV L t n = tkL L t n L.length) := by
  obtain ⟨J, _, _, _, h4⟩ := placeL hB t
  rcases h4 with ⟨h1, h2, _, h3⟩ | ⟨h1, _, h3⟩
  · refine .inr ⟨isK_yes h3 _ h2, ?_⟩
    have e : takE L t n = 0 := by
      unfold takE
      rw [if_pos h, h1]
      show (if (gi L J).2 < n then (52 : Int) else 0) = 0
      rw [if_neg (by have := hu J h2 h3; omega)]
    refine ⟨e, ?_⟩
    unfold takV
    rw [if_pos e, h1, tkL_is (holB_sorted hB) h2 h3 (hu J h2 h3)]
  · have e : takE L t n = 6 := by unfold takE; rw [if_pos h, h1]
    refine .inl ⟨isK_no h3 _ (Nat.le_refl _), e, ?_⟩
    unfold takV
    rw [if_neg (by rw [e]; decide)]
theorem take_early {L : List (ByteArray × Int)} {t : ByteArray} {n : Int} (h : askE L t n = 0) (hB : holB L = true) {k : Nat} (hk : k < L.length) (ht : (gi L k).1 = t) (hu : (gi L k).2 < n) : takE L t n = 52 ∧ takV L t n = [] := by
  have hf := fnL_is hB hk ht
  have e : takE L t n = 52 := by
    unfold takE
    rw [if_pos h, hf]
    show (if (gi L k).2 < n then (52 : Int) else 0) = 52
    rw [if_pos hu]
  refine ⟨e, ?_⟩
  unfold takV
  rw [if_neg (by rw [e]; decide)]

/-- Put's list behind k rounds, and whether the asset was laid -/
def ptL (L : List (ByteArray × Int)) (t : ByteArray) (n : Int) : Nat → List (ByteArray × Int) × Bool
  | 0 => ([], false)
  | k + 1 => if (gi L k).1 = t then ((ptL L t n k).1 ++ [((gi L k).1, (gi L k).2 + n)], true) else if (ptL L t n k).2 = false ∧ lt t (gi L k).1 = true then ((ptL L t n k).1 ++ [(t, n)] ++ [gi L k], true) else ((ptL L t n k).1 ++ [gi L k], (ptL L t n k).2)
theorem ptL_len (L : List (ByteArray × Int)) (t : ByteArray) (n : Int) (k : Nat) : (ptL L t n k).1.length ≤ 2 * k := by
  induction k with
  | zero => exact Nat.le_refl _
  | succ k ih =>
    unfold ptL
    split
    · simp; omega
    · split
      · simp; omega
      · simp; omega
theorem ptL_old {L : List (ByteArray × Int)} {t : ByteArray} {n : Int} {j : Nat} (hs : Sorted L.length fun i => (gi L i).1) (hj : j < L.length) (ht : (gi L j).1 = t) : ptL L t n L.length = (pu L j ((gi L j).2 + n), true) := by
  have hne : ∀ i, i < L.length → i ≠ j → (gi L i).1 ≠ t := fun i hi h e => h (hs.inj i j hi hj (e.trans ht.symm))
  have hlt : ∀ i, i < j → lt t (gi L i).1 = false := fun i hi => by
    have := hs.lt i j hi hj
    rw [ht] at this
    exact lt_asymm this
  have hp : ∀ k, k < L.length → (pu L j ((gi L j).2 + n)).take (k + 1) = (pu L j ((gi L j).2 + n)).take k ++ [if k = j then ((gi L j).1, (gi L j).2 + n) else gi L k] := fun k hk => by
    rw [take_snoc' _ k (by rw [pu_len L j hj]; exact hk), gi_pu L j hj]
  have key : ∀ k, k ≤ L.length → ptL L t n k = ((pu L j ((gi L j).2 + n)).take k, decide (j < k)) := by
    intro k
    induction k with
    | zero => intro _; rfl
    | succ k ih =>
      intro hk
      have h := ih (by omega)
      unfold ptL
      rw [h, hp k (by omega)]
      by_cases g : k = j
      · subst g
        rw [if_pos ht, if_pos rfl, decide_eq_true (show k < k + 1 by omega)]
      · rw [if_neg (hne k (by omega) g), if_neg g]
        by_cases g2 : k < j
        · rw [if_neg (fun e => by have := e.2; rw [hlt k g2] at this; cases this)]
          rw [decide_eq_false (by omega), decide_eq_false (by omega)]
        · rw [if_neg (fun e => by have := e.1; simp at this; omega), decide_eq_true (by omega), decide_eq_true (by omega)]
  rw [key L.length (Nat.le_refl _), decide_eq_true hj, List.take_of_length_le (by rw [pu_len L j hj]; exact Nat.le_refl _)]
theorem ptL_new {L : List (ByteArray × Int)} {t : ByteArray} {n : Int} {J : Nat} (hJ : J ≤ L.length) (p2 : ∀ i, i < J → lt (gi L i).1 t = true) (p3 : ∀ i, J ≤ i → i < L.length → lt (gi L i).1 t = false) (hno : ∀ i, i < L.length → (gi L i).1 ≠ t) :
    (if (ptL L t n L.length).2 then (ptL L t n L.length).1 else (ptL L t n L.length).1 ++ [(t, n)]) = ins L J (t, n) ∧ ((ptL L t n L.length).2 = true → (ptL L t n L.length).1.length = L.length + 1) ∧ ((ptL L t n L.length).2 = false → (ptL L t n L.length).1.length = L.length) := by
  have hp : ∀ k, k ≤ L.length → (ins L J (t, n)).take (k + 1) = (ins L J (t, n)).take k ++ [if k < J then gi L k else if k = J then (t, n) else gi L (k - 1)] := fun k hk => by
    rw [take_snoc' _ k (by rw [ins_len]; omega), gi_ins L J hJ]
  have key : ∀ k, k ≤ L.length → ptL L t n k = ((ins L J (t, n)).take (if J < k then k + 1 else k), decide (J < k)) := by
    intro k
    induction k with
    | zero => intro _; rfl
    | succ k ih =>
      intro hk
      have h := ih (by omega)
      unfold ptL
      rw [if_neg (hno k (by omega)), h]
      rcases Nat.lt_trichotomy k J with g | g | g
      · rw [if_neg (fun e => by have := e.2; rw [lt_asymm (p2 k g)] at this; cases this), if_neg (by omega), if_neg (by omega), hp k (by omega), if_pos g, decide_eq_false (by omega), decide_eq_false (by omega)]
      · subst g
        rw [if_pos ⟨decide_eq_false (by omega), lt_other (hno k (by omega)) (p3 k (Nat.le_refl _) (by omega))⟩, if_neg (by omega), if_pos (by omega), hp (k + 1) (by omega), hp k (by omega), if_neg (by omega), if_pos rfl, if_neg (by omega), if_neg (by omega), decide_eq_true (show k < k + 1 by omega), Nat.add_sub_cancel]
      · rw [if_neg (fun e => by have := e.1; simp at this; omega), if_pos g, if_pos (by omega), hp (k + 1) (by omega), if_neg (by omega), if_neg (by omega), decide_eq_true (by omega), decide_eq_true (by omega), Nat.add_sub_cancel]
  have hl := ins_len L J (t, n)
  rw [key L.length (Nat.le_refl _)]
  by_cases e : J < L.length
  · rw [if_pos e, decide_eq_true e]
    refine ⟨?_, fun _ => ?_, fun h => by cases h⟩
    · rw [if_pos rfl, List.take_of_length_le (by omega)]
    · show ((ins L J (t, n)).take (L.length + 1)).length = _
      rw [List.take_of_length_le (by omega), hl]
  · obtain rfl : J = L.length := by omega
    rw [if_neg e, decide_eq_false e]
    refine ⟨?_, (fun h => by cases h), fun _ => ?_⟩
    · rw [if_neg Bool.false_ne_true]
      have := hp L.length (Nat.le_refl _)
      rw [if_neg (by omega), if_pos rfl, List.take_of_length_le (by omega)] at this
      exact this.symm
    · show ((ins L L.length (t, n)).take L.length).length = _
      rw [List.length_take, hl]
      omega
/-- the list that Put checks at its end -/
def ptE (L : List (ByteArray × Int)) (t : ByteArray) (n : Int) : List (ByteArray × Int) := if (ptL L t n L.length).2 then (ptL L t n L.length).1 else (ptL L t n L.length).1 ++ [(t, n)]
theorem put_end {L : List (ByteArray × Int)} {t : ByteArray} {n : Int} (h : askE L t n = 0) (hB : holB L = true) (hu : ∀ i, i < L.length → (gi L i).1 = t → (gi L i).2 + n ≤ 1048576) :
    (32 < (ptE L t n).length ∧ putE L t n = 4 ∧ putV L t n = []) ∨ ((ptE L t n).length ≤ 32 ∧ putE L t n = 0 ∧ putV L t n = ptE L t n) := by
  have h32 := holB_len hB
  obtain ⟨J, g1, g2, g3, h4⟩ := placeL hB t
  rcases h4 with ⟨h1, h2, _, h3⟩ | ⟨h1, _, h3⟩
  · have e : ptE L t n = pu L J ((gi L J).2 + n) := by unfold ptE; rw [ptL_old (holB_sorted hB) h2 h3]; rfl
    have e2 : putE L t n = 0 := by
      unfold putE
      rw [if_pos h, h1]
      show (if 1048576 < (gi L J).2 + n then (52 : Int) else 0) = 0
      rw [if_neg (by have := hu J h2 h3; omega)]
    refine .inr ⟨by rw [e, pu_len L J h2]; exact h32, e2, ?_⟩
    unfold putV putL
    rw [if_pos e2, h1, e]
    rfl
  · have e : ptE L t n = ins L J (t, n) := (ptL_new g1 g2 g3 h3).1
    have hl := ins_len L J (t, n)
    by_cases g : 32 < L.length + 1
    · have e2 : putE L t n = 4 := by
        unfold putE
        rw [if_pos h, h1]
        show (if 32 < L.length + 1 then (4 : Int) else 0) = 4
        rw [if_pos g]
      refine .inl ⟨by rw [e, hl]; exact g, e2, ?_⟩
      unfold putV
      rw [if_neg (by rw [e2]; decide)]
    · have e2 : putE L t n = 0 := by
        unfold putE
        rw [if_pos h, h1]
        show (if 32 < L.length + 1 then (4 : Int) else 0) = 0
        rw [if_neg g]
      refine .inr ⟨by rw [e, hl]; omega, e2, ?_⟩
      unfold putV putL
      rw [if_pos e2, h1, e, pl_is L t J g1 g2 g3]
      rfl
theorem put_early {L : List (ByteArray × Int)} {t : ByteArray} {n : Int} (h : askE L t n = 0) (hB : holB L = true) {k : Nat} (hk : k < L.length) (ht : (gi L k).1 = t) (hu : 1048576 < (gi L k).2 + n) : putE L t n = 52 ∧ putV L t n = [] := by
  have hf := fnL_is hB hk ht
  have e : putE L t n = 52 := by
    unfold putE
    rw [if_pos h, hf]
    show (if 1048576 < (gi L k).2 + n then (52 : Int) else 0) = 52
    rw [if_pos hu]
  refine ⟨e, ?_⟩
  unfold putV
  rw [if_neg (by rw [e]; decide)]
end Go.Proofs.Ytbfgnkakcnhojaa.Co
