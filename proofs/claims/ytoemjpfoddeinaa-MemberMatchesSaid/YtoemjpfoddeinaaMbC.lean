/-
  Member: one cell is written in place; one member's accounts change.
-/
import Derived.Test.YtoemjpfoddeinaaMb9
namespace Go.Proofs.Ytoemjpfoddeinaa.Mb
open Go.RowKit Go.Proofs.Ytoemjpfoddeinaa Go.Proofs.Ytoemjpfoddeinaa.Ls Go.Proofs.Ytoemjpfoddeinaa.Kb
open Go.Proofs.Ytoemjpfoddeinaa.Nm hiding ret_bool ret_int

theorem flat_put {α : Type} (f : α → List Value) (k : Nat) (hk : ∀ x, (f x).length = k) (j : Nat) (hj : j < k) (y : α) (v : Value) : ∀ (xs : List α) (i : Nat) (hi : i < xs.length), f y = (f xs[i]).set j v → (xs.flatMap f).set (i * k + j) v = (xs.set i y).flatMap f := by
  intro xs
  induction xs with
  | nil => intro i h; cases h
  | cons x xs ih =>
    intro i h hy
    cases i with
    | zero =>
      rw [Nat.zero_mul, Nat.zero_add, List.flatMap_cons, List.set_append_left _ _ (by rw [hk]; exact hj), List.set_cons_zero, List.flatMap_cons]
      rw [hy]
      rfl
    | succ i =>
      have hi : i < xs.length := by simpa using h
      have e : (i + 1) * k + j - k = i * k + j := by rw [Nat.add_mul]; omega
      rw [List.flatMap_cons, List.set_append_right _ _ (by rw [hk, Nat.add_mul]; omega), hk, e, List.set_cons_succ, List.flatMap_cons, ih i hi hy]
theorem OwnL.put {α : Type} {w : World} {B g cap k j i : Nat} {T : TypeId} {f : α → List Value} {xs : List α} (hk : ∀ x, (f x).length = k) (h : OwnL w B T k f (.slice (some ⟨g, 0, none⟩) xs.length cap) xs) (hi : i < xs.length) (hj : j < k) (y : α) (v : Value) (hy : f y = (f xs[i]).set j v) :
    OwnL (w.setCell ⟨g, i * k + j, none⟩ v) B T k f (.slice (some ⟨g, 0, none⟩) (xs.set i y).length cap) (xs.set i y) := by
  obtain ⟨cur, h1, h2, h3, h4, h5, h6⟩ := h.row'
  have hle : (i + 1) * k ≤ cap * k := Nat.mul_le_mul_right _ (by omega)
  rw [Nat.add_mul, Nat.one_mul] at hle
  have hl : (xs.set i y).length = xs.length := List.length_set ..
  have hs := setA_list [v] cur (i * k + j) (by rw [h5]; simp; omega)
  refine ⟨by rw [flat_len f k hk], .inr ⟨g, cap, _, by rw [hl], h1, heap_setCells [v] w cur (i * k + j) h2, by rw [hl]; exact h3, h4, by rw [setA_size, h5], ?_⟩⟩
  rw [hs, hl]
  have e : cur.toList.take (i * k + j) ++ [v] ++ cur.toList.drop (i * k + j + [v].length) = cur.toList.set (i * k + j) v := by
    rw [List.set_eq_take_append_cons_drop, if_pos (by rw [Array.length_toList, h5]; omega), List.append_assoc]
    rfl
  rw [e, List.take_set, h6, flat_put f k hk j hj y v xs i hi hy]
theorem getElem_gp (xs : List P) (i : Nat) (h : i < xs.length) : xs[i] = gp xs i := by
  unfold gp
  rw [List.getD_eq_getElem?_getD, List.getElem?_eq_getElem h]
  rfl
theorem getElem_ga (xs : List Ac) (i : Nat) (h : i < xs.length) : xs[i] = ga xs i := by
  unfold ga
  rw [List.getD_eq_getElem?_getD, List.getElem?_eq_getElem h]
  rfl
/-- the i-th member's accounts lie elsewhere or are others; all else is as it was -/
theorem Rows.set {w w' : World} {B i : Nat} {xs : List P} {y : P} (h : Rows w B xs) (hi : i < xs.length) (hg : w.grownBy w' (sl (gp xs i)).ownBlock) (hy : OwnL w' B 32 4 acc (sl y) y.1.ac)
    (hfr : ∀ b, (sl y).ownBlock = some b → (sl (gp xs i)).ownBlock = some b ∨ w.heap.size ≤ b) : Rows w' B (xs.set i y) := by
  have hpw := List.pairwise_iff_getElem.1 h.ne
  have hd : ∀ j, j < xs.length → j ≠ i → ∀ b, (sl (gp xs j)).ownBlock = some b → (sl (gp xs i)).ownBlock ≠ some b := fun j hj hne b hb => by
    rcases Nat.lt_or_gt_of_ne hne with g | g
    · have := hpw j i hj hi g b
      rw [getElem_gp, getElem_gp] at this
      exact this hb
    · intro hb2
      have := hpw i j hi hj g b
      rw [getElem_gp, getElem_gp] at this
      exact this hb2 hb
  have hj2 : ∀ j (hj : j < xs.length), j ≠ i → OwnL w' B 32 4 acc (sl (gp xs j)) (gp xs j).1.ac := fun j hj hne => own_kept (h.own _ (gp_mem xs j hj)) hg (hd j hj hne)
  have hyd : ∀ j, j < xs.length → j ≠ i → ∀ b, (sl y).ownBlock = some b → (sl (gp xs j)).ownBlock ≠ some b := fun j hj hne b hb hb2 => by
    rcases hfr b hb with g | g
    · exact hd j hj hne b hb2 g
    · have := h.lt _ (gp_mem xs j hj) b hb2
      omega
  refine ⟨fun x hx => ?_, List.pairwise_iff_getElem.2 fun j k hj hk hjk => ?_⟩
  · obtain ⟨j, hj, rfl⟩ := List.mem_iff_getElem.1 hx
    rw [List.length_set] at hj
    rw [List.getElem_set]
    split
    · exact hy
    · rename_i hne
      rw [getElem_gp xs j hj]
      exact hj2 j hj (fun e => hne e.symm)
  · rw [List.length_set] at hj hk
    intro b
    rw [List.getElem_set, List.getElem_set]
    split
    · rename_i e
      rw [if_neg (by omega), getElem_gp xs k hk]
      exact hyd k hk (by omega) b
    · rename_i e
      split
      · rename_i e2
        rw [getElem_gp xs j hj]
        exact fun h1 h2 => hyd j hj (by omega) b h2 h1
      · rw [getElem_gp xs j hj, getElem_gp xs k hk]
        intro h1
        have := hpw j k hj hk hjk b
        rw [getElem_gp xs j hj, getElem_gp xs k hk] at this
        exact this h1
theorem grown_none (w : World) (r : Option Nat) : w.grownBy w r := ⟨rfl, rfl, rfl, Nat.le_refl _, fun _ _ _ => rfl⟩
theorem grown_below {w w' : World} (h : Below w.heap.size w w') (r : Option Nat) : w.grownBy w' r := ⟨h.os, h.tape, h.output, h.size, fun i hi _ => h.block i hi⟩
theorem row_set {xs : List P} {i : Nat} (hi : i < xs.length) {w : World} {B : Nat} (h : Rows w B xs) {y : P} (hs : sl y = sl (gp xs i)) (ha : y.1.ac = (gp xs i).1.ac) : Rows w B (xs.set i y) :=
  h.set hi (grown_none _ _) (by rw [hs, ha]; exact h.own _ (gp_mem xs i hi)) fun b hb => .inl (by rw [← hs]; exact hb)
theorem own_list {w : World} {B g c : Nat} {xs : List P} (h : OwnM w B (some ⟨g, 0, none⟩) c xs) : ∃ cs, w.heap[g]? = some (.cells cs 30 (0, 0)) := own_in h.ms g rfl
/-- one cell of a member is written -/
theorem OwnM.put {w : World} {B g c i j : Nat} {xs : List P} (h : OwnM w B (some ⟨g, 0, none⟩) c xs) (hi : i < xs.length) (hj : j < 5) (y : P) (v : Value) (hy : mec y = (mec (gp xs i)).set j v) (hr : Rows w B (xs.set i y)) :
    OwnM (w.setCell ⟨g, i * 5 + j, none⟩ v) B (some ⟨g, 0, none⟩) c (xs.set i y) := by
  obtain ⟨cs, hc⟩ := own_list h
  exact ⟨OwnL.put mec_len h.ms hi hj y v (by rw [getElem_gp]; exact hy), hr.far hc (by decide) v⟩
theorem below_put {w : World} {B g o : Nat} (v : Value) (h : B ≤ g) : Below B w (w.setCell ⟨g, o, none⟩ v) := (Below.refl B w).setCell (p := ⟨g, o, none⟩) h v
end Go.Proofs.Ytoemjpfoddeinaa.Mb
