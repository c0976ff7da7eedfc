/-
  Slices of elements of several cells, as lists: reading them, owning them, appending one element.
-/
import Derived.Test.YtoemjpfoddeinaaProg
import Derived.WalkKit
import Derived.Lib.Hide
import Derived.Below
import Derived.Laws.OwnMore
import Derived.OwnWalk
import Derived.Deep.AppendLies
import Derived.RegionTactic
namespace Go.Proofs.Ytoemjpfoddeinaa.Ls
open Go.RowKit Go.Proofs.Ytoemjpfoddeinaa

theorem flat_get {α : Type} (f : α → List Value) (k : Nat) (hk : ∀ x, (f x).length = k) (xs : List α) (i j : Nat) (hj : j < k) : (xs.flatMap f)[i * k + j]? = (xs[i]?).bind fun x => (f x)[j]? := by
  induction xs generalizing i with
  | nil => simp
  | cons x xs ih =>
    rw [List.flatMap_cons]
    cases i with
    | zero => rw [List.getElem?_append_left (by rw [hk]; omega)]; simp
    | succ i =>
      have e : (i + 1) * k + j = k + (i * k + j) := by rw [Nat.add_mul]; omega
      rw [e, List.getElem?_append_right (by rw [hk]; omega), hk, Nat.add_sub_cancel_left, ih i]
      simp
theorem flat_len {α : Type} (f : α → List Value) (k : Nat) (hk : ∀ x, (f x).length = k) (xs : List α) : (xs.flatMap f).length = xs.length * k := by
  induction xs with
  | nil => simp
  | cons x xs ih => rw [List.flatMap_cons, List.length_append, hk, ih, List.length_cons, Nat.add_mul]; omega

/-- a slice in memory that reads as a list; an element takes k cells -/
def AtL {α : Type} (w : World) (k : Nat) (f : α → List Value) (a : Option Addr) (xs : List α) : Prop :=
  ∀ (i : Nat) (x : α), xs[i]? = some x → ∃ b off, a = some ⟨b, off, none⟩ ∧ ∀ (j : Nat) (u : Value), (f x)[j]? = some u → w.cell? ⟨b, off + i * k + j, none⟩ = some u
theorem keep {w w' : World} {p : Addr} {v : Value} (h : w.cell? p = some v) (hb : Below w.heap.size w w') : w'.cell? p = some v := (hb.cell (World.block_lt_of_cell? w p h)).trans h
theorem AtL.below {α : Type} {w w' : World} {k : Nat} {f : α → List Value} {a : Option Addr} {xs : List α} (h : AtL w k f a xs) (hb : Below w.heap.size w w') : AtL w' k f a xs := fun i x hx => by
  obtain ⟨b, off, ha, hc⟩ := h i x hx
  exact ⟨b, off, ha, fun j u hu => keep (hc j u hu) hb⟩
theorem AtL.nil {α : Type} (w : World) (k : Nat) (f : α → List Value) (a : Option Addr) : AtL w k f a [] := fun i x hx => by simp at hx
/-- a cut from the left -/
theorem AtL.cut {α : Type} {w : World} {k : Nat} {f : α → List Value} {b off n : Nat} {xs : List α} (h : AtL w k f (some ⟨b, off, none⟩) xs) (_hn : n ≤ xs.length) : AtL w k f (some ⟨b, off + n * k, none⟩) (xs.drop n) := fun i x hx => by
  rw [List.getElem?_drop] at hx
  obtain ⟨b', off', ha, hc⟩ := h (n + i) x hx
  cases ha
  refine ⟨b, off + n * k, rfl, fun j u hu => ?_⟩
  have := hc j u hu
  rw [Nat.add_mul, ← Nat.add_assoc] at this
  exact this

/-- a slice that the call owns -/
def OwnL {α : Type} (w : World) (B : Nat) (T : TypeId) (k : Nat) (f : α → List Value) (v : Value) (xs : List α) : Prop := w.ownsRow B T k v xs.length (xs.flatMap f)
theorem OwnL.nil {α : Type} (w : World) (B : Nat) (T : TypeId) (k : Nat) (f : α → List Value) : OwnL w B T k f (.slice none 0 0) [] := World.ownsRow_nil w B T k
theorem OwnL.read {α : Type} {w : World} {B : Nat} {T : TypeId} {k : Nat} {f : α → List Value} {v : Value} {xs : List α} (h : OwnL w B T k f v xs) (hk : ∀ x, (f x).length = k) :
    ∃ a c, v = .slice a xs.length c ∧ AtL w k f a xs ∧ xs.length ≤ c ∧ (∀ b, v.ownBlock = some b → B ≤ b ∧ b < w.heap.size) := by
  have hlt := h.lt
  rcases h.2 with ⟨hv, hn⟩ | ⟨g, cap, cur, hv, hb, hg, hnc, hcm, hcs, htk⟩
  · have : xs = [] := List.length_eq_zero_iff.1 hn
    subst this
    exact ⟨none, 0, hv, AtL.nil _ _ _ _, by simp, hlt⟩
  · refine ⟨some ⟨g, 0, none⟩, cap, hv, fun i x hx => ⟨g, 0, rfl, fun j u hu => ?_⟩, hnc, hlt⟩
    have hj : j < k := by
      rw [← hk x]
      exact (List.getElem?_eq_some_iff.1 hu).1
    have hc := World.ownsRow.cells h (g := g) (by rw [hv]; rfl) (i * k + j) u (by rw [flat_get f k hk xs i j hj, hx]; exact hu)
    have hadd : (⟨g, 0, none⟩ : Addr).add (i * k + j) = ⟨g, 0 + i * k + j, none⟩ := by unfold Addr.add; split <;> simp_all
    rwa [hadd] at hc
theorem OwnL.below {α : Type} {w w' : World} {B : Nat} {T : TypeId} {k : Nat} {f : α → List Value} {v : Value} {xs : List α} (h : OwnL w B T k f v xs) (hb : Below w.heap.size w w') : OwnL w' B T k f v xs := by
  refine World.ownsRow.kept h (row := none) ⟨hb.os, hb.tape, hb.output, hb.size, fun i hi _ => hb.block i hi⟩ ?_
  cases v.ownBlock
  · exact .inl rfl
  · exact .inr (by simp)
theorem OwnL.lt {α : Type} {w : World} {B : Nat} {T : TypeId} {k : Nat} {f : α → List Value} {v : Value} {xs : List α} (h : OwnL w B T k f v xs) : ∀ b, v.ownBlock = some b → B ≤ b ∧ b < w.heap.size := World.ownsRow.lt h
/-- stores elsewhere -/
theorem OwnL.far {α : Type} {w : World} {B : Nat} {T : TypeId} {k : Nat} {f : α → List Value} {v : Value} {xs : List α} (h : OwnL w B T k f v xs) {p : Addr} (hp : v.ownBlock ≠ some p.block) (u : Value) : OwnL (w.setCell p u) B T k f v xs := by
  refine World.ownsRow.kept h (row := some p.block) ⟨rfl, rfl, rfl, by simp [World.setCell], fun i hi hne => Below.heap_setCell w p u i (fun e => hne (by rw [e]))⟩ ?_
  cases hv : v.ownBlock
  · exact .inl rfl
  · exact .inr (by rw [← hv]; exact hp)

section
variable {P : Program}
/-- 'append(out, x)', the element laid into a block of its own: at the list of operations -/
theorem wpList_append_L {α : Type} {w : World} {ops : Array Oper} {rest : List Oper} {o : Oper} {a : Act} {Q : Exit → Act → World → Prop} (hgd : o.guard = none) (s x : Operand) (t : TypeId)
    (ho : o.op = .call { callee := .builtin .append, args := #[s, x], argTypes := #[t, t] })
    (T : TypeId) (z : Value) (k bytes : Nat) (ht : P.underlying t = some (.slice T)) (hi : (P.info? T).map (fun i => (i.zero, i.size, i.bytes)) = some (some z, k, bytes)) (hz : z.cells.size = k) (hk0 : 0 < k)
    (B : Nat) (f : α → List Value) (v : Value) (xs : List α) (e : α) (X : Nat) (cs : Array Value) (hs : a.eval s = v) (hx : a.eval x = .slice (some ⟨X, 0, none⟩) 1 1)
    (hown : OwnL w B T k f v xs) (hX : w.heap[X]? = some (.cells cs T (0, 0))) (hcs : cs.toList = f e) (hk : (f e).length = k) (h1 : ∀ u ∈ f e, u.oneCell' = true)
    (h63 : xs.length + 1 ≤ maxLen) (hbytes : (xs.length + 1) * bytes ≤ 140737488355328) (hB : B ≤ w.heap.size)
    (h : ∀ g cap w', OwnL w' B T k f (.slice (some ⟨g, 0, none⟩) (xs.length + 1) cap) (xs ++ [e]) → w.grownBy w' v.ownBlock → (v.ownBlock = some g ∨ g = w.heap.size) → wpList P ops Q rest (a.put o.dst (.slice (some ⟨g, 0, none⟩) (xs.length + 1) cap)) w') : wpList P ops Q (o :: rest) a w := by
  obtain ⟨i0, hi0, hz0, hz1, hz2⟩ := info_parts hi
  refine wpList_append_lies w hgd s x t ho B T i0 z k bytes ht hi0 hz0 hz1 hz2 hz hk0 v xs.length (xs.flatMap f) hs hown ⟨X, 0, none⟩ 1 1 (f e) hx (by simpa using hk) ?_ h1 (by omega) h63 hbytes hB w.heap.size rfl ?_
  · intro j u hu
    exact World.news_of_block hX j u (by rw [hcs]; exact hu)
  · intro g cap w' hown' hg hat hlt
    refine h g cap w' ?_ hg hat
    unfold OwnL
    rw [List.length_append, List.flatMap_append]
    simpa using hown'
/-- the same at a step of a region that draws -/
theorem step_append_L {α : Type} {w : World} {ops : Array Oper} {o : Oper} {a : Act} {K : Act → World → Prop} {Q : Exit → Act → World → Prop} {E : Prop} (hgd : o.guard = none) (s x : Operand) (t : TypeId)
    (ho : o.op = .call { callee := .builtin .append, args := #[s, x], argTypes := #[t, t] })
    (T : TypeId) (z : Value) (k bytes : Nat) (ht : P.underlying t = some (.slice T)) (hi : (P.info? T).map (fun i => (i.zero, i.size, i.bytes)) = some (some z, k, bytes)) (hz : z.cells.size = k) (hk0 : 0 < k)
    (B : Nat) (f : α → List Value) (v : Value) (xs : List α) (e : α) (X : Nat) (cs : Array Value) (hs : a.eval s = v) (hx : a.eval x = .slice (some ⟨X, 0, none⟩) 1 1)
    (hown : OwnL w B T k f v xs) (hX : w.heap[X]? = some (.cells cs T (0, 0))) (hcs : cs.toList = f e) (hk : (f e).length = k) (h1 : ∀ u ∈ f e, u.oneCell' = true)
    (h63 : xs.length + 1 ≤ maxLen) (hbytes : (xs.length + 1) * bytes ≤ 140737488355328) (hB : B ≤ w.heap.size)
    (h : ∀ g cap w', OwnL w' B T k f (.slice (some ⟨g, 0, none⟩) (xs.length + 1) cap) (xs ++ [e]) → w.grownBy w' v.ownBlock → (v.ownBlock = some g ∨ g = w.heap.size) → K (a.put o.dst (.slice (some ⟨g, 0, none⟩) (xs.length + 1) cap)) w') :
    if Region.wanted o (yielded ops a.tmps) = true then Oper.wp P o a w K Q else E := by
  obtain ⟨i0, hi0, hz0, hz1, hz2⟩ := info_parts hi
  refine step_append_lies w hgd s x t ho B T i0 z k bytes ht hi0 hz0 hz1 hz2 hz hk0 v xs.length (xs.flatMap f) hs hown ⟨X, 0, none⟩ 1 1 (f e) hx (by simpa using hk) ?_ h1 (by omega) h63 hbytes hB w.heap.size rfl ?_
  · intro j u hu
    exact World.news_of_block hX j u (by rw [hcs]; exact hu)
  · intro g cap w' hown' hg hat hlt
    refine h g cap w' ?_ hg hat
    unfold OwnL
    rw [List.length_append, List.flatMap_append]
    simpa using hown'
end
end Go.Proofs.Ytoemjpfoddeinaa.Ls
