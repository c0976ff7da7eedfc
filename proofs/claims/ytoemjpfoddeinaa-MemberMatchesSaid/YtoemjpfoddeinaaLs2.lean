/-
  Appending a whole slice to a slice of the call's own; a slice of the call's own that is built empty.
-/
import Derived.Test.YtoemjpfoddeinaaLs
import Derived.Laws.AppendOwnNone
namespace Go.Proofs.Ytoemjpfoddeinaa.Ls
open Go.RowKit Go.Proofs.Ytoemjpfoddeinaa

theorem OwnL.lower' {α : Type} {w : World} {B B' : Nat} {T : TypeId} {k : Nat} {f : α → List Value} {v : Value} {xs : List α} (h : OwnL w B T k f v xs) (hB : B' ≤ B) : OwnL w B' T k f v xs := by
  refine ⟨h.1, ?_⟩
  rcases h.2 with hn | ⟨g, cap, cur, h1, h2, h3⟩
  · exact .inl hn
  · exact .inr ⟨g, cap, cur, h1, by omega, h3⟩
theorem OwnL.sl {α : Type} {w : World} {B : Nat} {T : TypeId} {k : Nat} {f : α → List Value} {a : Option Addr} {n c : Nat} {xs : List α} (h : OwnL w B T k f (.slice a n c) xs) (hk : ∀ x, (f x).length = k) : AtL w k f a xs ∧ n = xs.length ∧ xs.length ≤ c := by
  obtain ⟨a', c', hv, hr, hc, _⟩ := h.read hk
  injection hv with e1 e2 e3
  subst e1
  subst e3
  exact ⟨hr, e2, hc⟩
/-- a block of no cells is an empty slice of the call's own -/
theorem OwnL.empty {α : Type} {w : World} {B : Nat} {T : TypeId} {k : Nat} {f : α → List Value} {g : Nat} (h : w.heap[g]? = some (.cells #[] T (0, 0))) (hB : B ≤ g) : OwnL w B T k f (.slice (some ⟨g, 0, none⟩) 0 0) ([] : List α) :=
  ⟨by simp, .inr ⟨g, 0, #[], rfl, hB, h, Nat.le_refl _, by unfold maxLen; omega, by simp, by simp⟩⟩

section
variable {P : Program} (w : World)
theorem run_append_nil (B : Nat) (t ty e : TypeId) (i : TypeInfo) (size : Nat) (ht : P.underlying t = some (.slice e)) (hi : P.info? e = some i)
    (v : Value) (n : Nat) (xs : List Value) (hown : w.ownsRow B e size v n xs) (c : Nat) : (Builtin.append_ #[t, t] ty #[v, .slice none 0 c]).run P w = .ok v w := by
  rcases hown.2 with ⟨rfl, rfl⟩ | ⟨g, cap, cur, rfl, _, _, hnc, _⟩
  · simp [Builtin.append_, run_underlying ht, sizeOf, typeInfo, hi, Builtin.lenOf, Builtin.firstCells]
  · simp [Builtin.append_, run_underlying ht, sizeOf, typeInfo, hi, Builtin.lenOf, Builtin.firstCells, hnc, storeCells]
theorem run_append_LL {α : Type} (t ty : TypeId) (T : TypeId) (z : Value) (k bytes : Nat) (ht : P.underlying t = some (.slice T)) (hi : (P.info? T).map (fun i => (i.zero, i.size, i.bytes)) = some (some z, k, bytes)) (hz : z.cells.size = k) (hk0 : 0 < k)
    (B : Nat) (f : α → List Value) (hk : ∀ x, (f x).length = k) (h1 : ∀ x, ∀ u ∈ f x, u.oneCell' = true) (v : Value) (ys xs : List α) (A : Option Addr) (c : Nat) (hown : OwnL w B T k f v ys) (hA : AtL w k f A xs) (hA0 : xs = [] → A = none ∨ ∃ ad, A = some ad)
    (h63 : ys.length + xs.length ≤ maxLen) (hbytes : (ys.length + xs.length) * bytes ≤ 140737488355328) (hB : B ≤ w.heap.size) :
    ∃ a' c' w', (Builtin.append_ #[t, t] ty #[v, .slice A xs.length c]).run P w = .ok (.slice a' (ys.length + xs.length) c') w' ∧ OwnL w' B T k f (.slice a' (ys.length + xs.length) c') (ys ++ xs) ∧ w.grownBy w' v.ownBlock := by
  obtain ⟨i0, hi0, hz0, hz1, hz2⟩ := info_parts hi
  have shape : ∀ {v' : Value} {w' : World} {zs : List α}, OwnL w' B T k f v' zs → ∃ a' c', v' = .slice a' zs.length c' := fun h => by
    obtain ⟨a', c', hv, _⟩ := h.read hk
    exact ⟨a', c', hv⟩
  have main : ∀ ad : Addr, (∀ j u, (xs.flatMap f)[j]? = some u → w.cell? (ad.add j) = some u) → ∃ a' c' w', (Builtin.append_ #[t, t] ty #[v, .slice (some ad) xs.length c]).run P w = .ok (.slice a' (ys.length + xs.length) c') w' ∧ OwnL w' B T k f (.slice a' (ys.length + xs.length) c') (ys ++ xs) ∧ w.grownBy w' v.ownBlock := by
    intro ad hcells
    obtain ⟨v', w', hr, ho, hg, _⟩ := run_append_own (P := P) w B t ty T i0 z k bytes ht hi0 hz0 hz1 hz2 hz hk0 v ys.length (ys.flatMap f) hown ad xs.length c (xs.flatMap f) (flat_len f k hk xs) hcells
      (fun u hu => by obtain ⟨x, _, hx⟩ := List.mem_flatMap.1 hu; exact h1 x u hx) h63 hbytes hB
    have ho' : OwnL w' B T k f v' (ys ++ xs) := by
      unfold OwnL
      rw [List.length_append, List.flatMap_append]
      exact ho
    obtain ⟨a', c', rfl⟩ := shape ho'
    rw [List.length_append] at ho' hr
    exact ⟨a', c', w', hr, ho', hg⟩
  by_cases hx : xs = []
  · subst hx
    rcases hA0 rfl with rfl | ⟨ad, rfl⟩
    · have hr := run_append_nil (P := P) w B t ty T i0 k ht hi0 v ys.length (ys.flatMap f) hown c
      obtain ⟨a', c', rfl⟩ := shape hown
      exact ⟨a', c', w, hr, by simpa using hown, World.grownBy.refl w _⟩
    · exact main ad (fun j u hu => by simp at hu)
  · obtain ⟨x, xt, rfl⟩ := List.exists_cons_of_ne_nil hx
    obtain ⟨b, off, rfl, _⟩ := hA 0 x rfl
    refine main _ (fun j u hu => ?_)
    have hj : j < (x :: xt).length * k := by rw [← flat_len f k hk]; exact (List.getElem?_eq_some_iff.1 hu).1
    have hd : j / k < (x :: xt).length := Nat.div_lt_of_lt_mul (by rw [Nat.mul_comm]; exact hj)
    have e : j / k * k + j % k = j := by rw [Nat.mul_comm]; exact Nat.div_add_mod j k
    obtain ⟨b', off', hb, hc⟩ := hA (j / k) _ (List.getElem?_eq_getElem hd)
    cases hb
    have h2 := flat_get f k hk (x :: xt) (j / k) (j % k) (Nat.mod_lt _ hk0)
    rw [e, hu, List.getElem?_eq_getElem hd] at h2
    have h3 := hc (j % k) u h2.symm
    have e2 : off + j / k * k + j % k = off + j := by omega
    rw [e2] at h3
    have hadd : (⟨b, off, none⟩ : Addr).add j = ⟨b, off + j, none⟩ := by unfold Addr.add; split <;> simp_all
    rw [hadd]
    exact h3
/-- 'append(out, l...)' at the list of operations -/
theorem wpList_append_LL {α : Type} {ops : Array Oper} {rest : List Oper} {o : Oper} {a : Act} {Q : Exit → Act → World → Prop} (hgd : o.guard = none) (s x : Operand) (t : TypeId)
    (ho : o.op = .call { callee := .builtin .append, args := #[s, x], argTypes := #[t, t] })
    (T : TypeId) (z : Value) (k bytes : Nat) (ht : P.underlying t = some (.slice T)) (hi : (P.info? T).map (fun i => (i.zero, i.size, i.bytes)) = some (some z, k, bytes)) (hz : z.cells.size = k) (hk0 : 0 < k)
    (B : Nat) (f : α → List Value) (hk : ∀ x, (f x).length = k) (h1 : ∀ x, ∀ u ∈ f x, u.oneCell' = true) (v : Value) (ys xs : List α) (A : Option Addr) (c : Nat) (hs : a.eval s = v) (hx : a.eval x = .slice A xs.length c)
    (hown : OwnL w B T k f v ys) (hA : AtL w k f A xs) (h63 : ys.length + xs.length ≤ maxLen) (hbytes : (ys.length + xs.length) * bytes ≤ 140737488355328) (hB : B ≤ w.heap.size)
    (h : ∀ a' c' w', OwnL w' B T k f (.slice a' (ys.length + xs.length) c') (ys ++ xs) → w.grownBy w' v.ownBlock → wpList P ops Q rest (a.put o.dst (.slice a' (ys.length + xs.length) c')) w') : wpList P ops Q (o :: rest) a w := by
  refine wpList_plain hgd fun _ hK => ?_
  obtain ⟨a', c', w', hr, h2, h3⟩ := run_append_LL (P := P) w t o.type T z k bytes ht hi hz hk0 B f hk h1 v ys xs A c hown hA (fun _ => by cases A; exact .inl rfl; exact .inr ⟨_, rfl⟩) h63 hbytes hB
  unfold Oper.wp execOp
  simp only [ho, resolve, invoke, builtin, Sem.run_bind, Sem.run_pure, Result.andThen_ok, List.map_toArray, List.map_cons, List.map_nil, hs, hx, hr]
  exact hK _ _ (h a' c' w' h2 h3)
end
end Go.Proofs.Ytoemjpfoddeinaa.Ls
