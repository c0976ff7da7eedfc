/-
  Arguments as the statements hand them: slices opened to their elements' cells.
-/
import Derived.Test.YtoemjpfoddeinaaLs
import Derived.Deep.Slices
import Derived.ChangeArms
import Derived.Lib.SmallJoins
namespace Go.Proofs.Ytoemjpfoddeinaa.Ls
open Go.RowKit Go.ChangeShapes Go.WideShapes Go.Deep Go.Proofs.Ytoemjpfoddeinaa

section
variable {H : Type} {enc : TypeId × Value → H} {P : Program} {w : World} {base : Nat} {spare : Nat → Bool} {held : Bool}

/-- a slice, opened at every index to the cells of the element -/
theorem open_cells {t e : TypeId} {fuel : Nat} {v : Value} {x : DataW H × List MemPlace} (k : Nat) (hk0 : 0 < k) (ht : P.underlying t = some (.slice e)) (hk : P.cellsOf e = k) (h : DataW.trod enc P w base spare held fuel t [v] = some x) :
    ∃ (a : Option Addr) (len cap : Nat), v = .slice a len cap ∧ len ≤ cap ∧ cap ≤ maxLen ∧
      ∀ i, i < len → ∃ (b off n : Nat) (cs : List Value) (y : DataW H × List MemPlace), a = some ⟨b, off, none⟩ ∧ cs.length = k ∧ (∀ (j : Nat) (u : Value), cs[j]? = some u → w.cell? ⟨b, off + i * k + j, none⟩ = some u) ∧
        DataW.trod enc P w base spare held n e cs = some y := by
  rcases Go.Deep.open_slice ht h with ⟨h0, _⟩ | ⟨a, len, cap, m, n, D, Pl, hcs, hb, hl, hm, hmm, hx, hi⟩
  · obtain rfl : v = .slice none 0 0 := by simpa using h0
    exact ⟨none, 0, 0, rfl, Nat.le_refl _, by unfold maxLen; omega, fun i hi => by omega⟩
  · obtain rfl : v = .slice (some a) len cap := by simpa using hcs
    refine ⟨some a, len, cap, rfl, hl, hm, fun i hil => ?_⟩
    have hlm : len ≤ m := by rw [hmm]; split <;> omega
    obtain ⟨cs', hc, ht'⟩ := hi i (by omega)
    rw [hk] at hc
    obtain ⟨_, hcl, hat⟩ := World.cells?_some hc
    have hsp : a.spot = none := by
      obtain ⟨cs0, hc0, _⟩ := hi 0 (by omega)
      rw [hk] at hc0
      obtain ⟨_, hcl0, hat0⟩ := World.cells?_some hc0
      have h1 := hat0 0 hk0
      rw [List.getElem?_eq_getElem (by omega)] at h1
      have e : (a.add (0 * k)).add 0 = a := by simp [Addr.add]
      rw [e] at h1
      unfold World.cell? at h1
      cases hs : a.spot with
      | none => rfl
      | some z => rw [hs] at h1; split at h1 <;> simp at h1
    obtain ⟨b, off, spot⟩ := a
    simp only at hsp
    subst hsp
    refine ⟨b, off, n, cs', _, rfl, hcl, fun j u hu => ?_, ht'⟩
    have hj : j < k := by rw [← hcl]; exact (List.getElem?_eq_some_iff.1 hu).1
    have h1 := hat j hj
    rw [hu] at h1
    have e : ((⟨b, off, none⟩ : Addr).add (i * k)).add j = ⟨b, off + i * k + j, none⟩ := by
      unfold Addr.add
      by_cases h0 : i * k = 0 <;> by_cases h2 : j = 0 <;> simp [h0, h2]
    rwa [e] at h1
end
/-- one choice for every index -/
theorem pick {α : Type} [Inhabited α] {n : Nat} {p : Nat → α → Prop} (h : ∀ i, i < n → ∃ x, p i x) : ∃ f : Nat → α, ∀ i, i < n → p i (f i) := by
  have h' : ∀ i, ∃ x, i < n → p i x := fun i => by
    by_cases hi : i < n
    · obtain ⟨x, hx⟩ := h i hi
      exact ⟨x, fun _ => hx⟩
    · exact ⟨default, fun g => absurd g hi⟩
  exact ⟨fun i => Classical.choose (h' i), fun i hi => Classical.choose_spec (h' i) hi⟩
theorem pickD {α : Type} [Inhabited α] {n : Nat} {p : Nat → α → Prop} (h : ∀ i, i < n → ∃ x, p i x) : ∃ f : Nat → α, (∀ i, i < n → p i (f i)) ∧ ∀ i, n ≤ i → f i = default := by
  obtain ⟨f, hf⟩ := pick h
  refine ⟨fun i => if i < n then f i else default, fun i hi => ?_, fun i hi => ?_⟩
  · show p i (if i < n then f i else default)
    rw [if_pos hi]
    exact hf i hi
  · show (if i < n then f i else default) = default
    rw [if_neg (by omega)]
theorem pickL {α : Type} [Inhabited α] {n : Nat} {p : Nat → α → Prop} (h : ∀ i, i < n → ∃ x, p i x) : ∃ xs : List α, xs.length = n ∧ ∀ i x, xs[i]? = some x → p i x := by
  obtain ⟨f, hf⟩ := pick h
  refine ⟨(List.range n).map f, by simp, fun i x hx => ?_⟩
  rw [List.getElem?_map] at hx
  by_cases hi : i < n
  · rw [List.getElem?_range hi] at hx
    obtain rfl : f i = x := by simpa using hx
    exact hf i hi
  · rw [List.getElem?_eq_none (by simp; omega)] at hx
    cases hx
end Go.Proofs.Ytoemjpfoddeinaa.Ls
