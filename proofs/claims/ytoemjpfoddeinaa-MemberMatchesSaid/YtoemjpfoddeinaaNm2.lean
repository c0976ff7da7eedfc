/-
  The order of strings, plain: transitive, total; sorted names; where a name stands in a sorted list.
-/
import Derived.Test.YtoemjpfoddeinaaNm
namespace Go.Proofs.Ytoemjpfoddeinaa.Nm
open Go.RowKit Go.Proofs.Ytoemjpfoddeinaa

theorem less_irrefl (a : List UInt8) : Op.bytesLess a a = false := by
  induction a with
  | nil => rfl
  | cons c a ih => simp [Op.bytesLess, ih, UInt8.lt_irrefl]
theorem less_trans (a b c : List UInt8) (h : Op.bytesLess a b = true) (k : Op.bytesLess b c = true) : Op.bytesLess a c = true := by
  induction a generalizing b c with
  | nil =>
    cases c with
    | nil => cases b <;> simp [Op.bytesLess] at h k
    | cons z c => rfl
  | cons x a ih =>
    cases b with
    | nil => simp [Op.bytesLess] at h
    | cons y b =>
      cases c with
      | nil => simp [Op.bytesLess] at k
      | cons z c =>
        simp only [Op.bytesLess, Bool.or_eq_true, Bool.and_eq_true, decide_eq_true_eq, beq_iff_eq] at h k ⊢
        rcases h with h | ⟨rfl, h⟩
        · rcases k with k | ⟨rfl, k⟩
          · exact .inl (UInt8.lt_trans h k)
          · exact .inl h
        · rcases k with k | ⟨rfl, k⟩
          · exact .inl k
          · exact .inr ⟨rfl, ih b c h k⟩
theorem less_total (a b : List UInt8) (h : Op.bytesLess a b = false) (k : Op.bytesLess b a = false) : a = b := by
  induction a generalizing b with
  | nil =>
    cases b with
    | nil => rfl
    | cons y b => simp [Op.bytesLess] at h
  | cons x a ih =>
    cases b with
    | nil => simp [Op.bytesLess] at k
    | cons y b =>
      simp only [Op.bytesLess, Bool.or_eq_false_iff, Bool.and_eq_false_iff, decide_eq_false_iff_not, beq_eq_false_iff_ne] at h k
      have hxy : x = y := by
        rw [← UInt8.toNat_inj]
        have h1 := h.1
        have k1 := k.1
        rw [UInt8.lt_iff_toNat_lt] at h1 k1
        omega
      subst hxy
      have h2 : Op.bytesLess a b = false := by simpa using h.2
      have k2 : Op.bytesLess b a = false := by simpa using k.2
      rw [ih b h2 k2]

theorem str_ext {a b : ByteArray} (h : a.toList = b.toList) : a = b := by
  rw [ByteArray.toList_eq, ByteArray.toList_eq] at h
  exact ByteArray.ext (Array.toList_inj.1 h)

def lt (a b : ByteArray) : Bool := Op.bytesLess a.toList b.toList
theorem lt_irrefl (a : ByteArray) : lt a a = false := less_irrefl _
theorem lt_trans {a b c : ByteArray} (h : lt a b = true) (k : lt b c = true) : lt a c = true := less_trans _ _ _ h k
theorem lt_asymm {a b : ByteArray} (h : lt a b = true) : lt b a = false := by
  cases k : lt b a
  · rfl
  · have := lt_trans h k
    rw [lt_irrefl] at this
    cases this
theorem lt_total {a b : ByteArray} (h : lt a b = false) (k : lt b a = false) : a = b := str_ext (less_total _ _ h k)
theorem cmpS_neg (a b : ByteArray) : cmpS a b < 0 ↔ lt a b = true := by
  unfold cmpS lt
  split
  · simp [*]
  · split <;> simp [*]
theorem cmpS_zero (a b : ByteArray) : cmpS a b = 0 ↔ a = b := by
  unfold cmpS
  constructor
  · intro h
    split at h
    · omega
    · rename_i h1
      split at h
      · rename_i h2
        rw [Bool.or_eq_true, beq_iff_eq] at h2
        rcases h2 with h2 | h2
        · exact absurd h2 h1
        · exact str_ext h2
      · omega
  · rintro rfl
    rw [less_irrefl]
    simp
theorem cmpS_cases (a b : ByteArray) : cmpS a b = -1 ∨ cmpS a b = 0 ∨ cmpS a b = 1 := by
  unfold cmpS
  split
  · exact .inl rfl
  · split
    · exact .inr (.inl rfl)
    · exact .inr (.inr rfl)

/-- names in strictly increasing order -/
def Sorted (n : Nat) (f : Nat → ByteArray) : Prop := ∀ i, 0 < i → i < n → lt (f (i - 1)) (f i) = true
theorem Sorted.lt {n : Nat} {f : Nat → ByteArray} (h : Sorted n f) (i j : Nat) (hij : i < j) (hj : j < n) : Nm.lt (f i) (f j) = true := by
  induction j with
  | zero => omega
  | succ j ih =>
    have h1 := h (j + 1) (by omega) hj
    rw [Nat.add_sub_cancel] at h1
    rcases Nat.lt_or_ge i j with g | g
    · exact lt_trans (ih g (by omega)) h1
    · obtain rfl : i = j := by omega
      exact h1
theorem Sorted.inj {n : Nat} {f : Nat → ByteArray} (h : Sorted n f) (i j : Nat) (hi : i < n) (hj : j < n) (e : f i = f j) : i = j := by
  rcases Nat.lt_trichotomy i j with g | g | g
  · have := h.lt i j g hj
    rw [e, lt_irrefl] at this
    cases this
  · exact g
  · have := h.lt j i g hi
    rw [e, lt_irrefl] at this
    cases this
/-- where a name stands, or would stand -/
theorem Sorted.place {n : Nat} {f : Nat → ByteArray} (h : Sorted n f) (t : ByteArray) : ∃ J, J ≤ n ∧ (∀ a, a < J → Nm.lt (f a) t = true) ∧ (∀ a, J ≤ a → a < n → Nm.lt (f a) t = false) := by
  induction n with
  | zero => exact ⟨0, by omega, fun a ha => by omega, fun a _ ha => by omega⟩
  | succ n ih =>
    obtain ⟨J, h1, h2, h3⟩ := ih (fun i h0 hi => h i h0 (by omega))
    cases k : Nm.lt (f n) t
    · exact ⟨J, by omega, h2, fun a ha hn => by
        rcases Nat.lt_or_ge a n with g | g
        · exact h3 a ha g
        · obtain rfl : a = n := by omega
          exact k⟩
    · refine ⟨n + 1, by omega, fun a ha => ?_, fun a ha hn => by omega⟩
      rcases Nat.lt_or_ge a n with g | g
      · exact lt_trans (h.lt a n g (by omega)) k
      · obtain rfl : a = n := by omega
        exact k
/-- the place of a name that is there -/
theorem Sorted.at {n : Nat} {f : Nat → ByteArray} (h : Sorted n f) (I : Nat) (hI : I < n) : (∀ a, a < I → Nm.lt (f a) (f I) = true) ∧ (∀ a, I ≤ a → a < n → Nm.lt (f a) (f I) = false) := by
  refine ⟨fun a ha => h.lt a I ha hI, fun a ha hn => ?_⟩
  rcases Nat.lt_or_ge I a with g | g
  · exact lt_asymm (h.lt I a g hn)
  · obtain rfl : a = I := by omega
    exact lt_irrefl _
end Go.Proofs.Ytoemjpfoddeinaa.Nm
