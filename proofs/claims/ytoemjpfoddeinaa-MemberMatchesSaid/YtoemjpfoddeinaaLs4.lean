/-
  Rows that the call owns: written in place; copy, clear and append of elements of several cells, as equations of their runs.
-/
import Derived.Test.YtoemjpfoddeinaaLs2
import Derived.Laws.IdiomCopy
import Derived.Lib.AppendZeros
import Derived.Lib.AppendZerosOnto
import Derived.Lib.Overlaps
import Derived.Lib.SliceRun
import Derived.Deep.AppendSrc
namespace Go.Proofs.Ytoemjpfoddeinaa.Ls
open Go.RowKit Go.Proofs.Ytoemjpfoddeinaa

/-- cells written from o on -/
def setA : Array Value → Nat → List Value → Array Value
  | c, _, [] => c
  | c, o, v :: r => setA (c.setIfInBounds o v) (o + 1) r
theorem setA_size (vs : List Value) : ∀ (c : Array Value) (o : Nat), (setA c o vs).size = c.size := by
  induction vs with
  | nil => intros; rfl
  | cons v r ih => intro c o; rw [setA, ih]; simp
theorem setA_list (vs : List Value) : ∀ (c : Array Value) (o : Nat), o + vs.length ≤ c.size → (setA c o vs).toList = c.toList.take o ++ vs ++ c.toList.drop (o + vs.length) := by
  induction vs with
  | nil => intro c o _; simp [setA]
  | cons v r ih =>
    intro c o h
    rw [List.length_cons] at h
    rw [setA, ih _ _ (by simp; omega)]
    have e1 : (c.setIfInBounds o v).toList = c.toList.set o v := by simp
    have e2 : c.toList.length = c.size := by simp
    rw [e1, List.take_add_one, List.getElem?_set_self (by omega), List.take_set_of_le (by omega), List.drop_set_of_lt (by omega), List.length_cons]
    simp only [Option.toList, List.append_assoc, List.cons_append, List.nil_append]
    rw [show o + (r.length + 1) = o + 1 + r.length by omega]
theorem heap_setCells {g : Nat} {T : TypeId} {fz : Nat × Nat} (vs : List Value) : ∀ (w : World) (cur : Array Value) (o : Nat), w.heap[g]? = some (.cells cur T fz) → (w.setCells g o vs).heap[g]? = some (.cells (setA cur o vs) T fz) := by
  induction vs with
  | nil => intro w cur o h; exact h
  | cons v r ih =>
    intro w cur o h
    rw [World.setCells, setA]
    exact ih _ _ _ (by simp [World.setCell, Array.getElem?_modify, h])
theorem grown_setCells (w : World) (g o : Nat) (vs : List Value) : w.grownBy (w.setCells g o vs) (some g) := by
  induction vs generalizing w o with
  | nil => exact ⟨rfl, rfl, rfl, Nat.le_refl _, fun _ _ _ => rfl⟩
  | cons v r ih =>
    rw [World.setCells]
    have h1 : w.grownBy (w.setCell ⟨g, o, none⟩ v) (some g) := ⟨rfl, rfl, rfl, by simp [World.setCell], fun k _ hk => Below.heap_setCell w ⟨g, o, none⟩ v k (fun e => hk (by rw [e]))⟩
    have h2 := ih (w.setCell ⟨g, o, none⟩ v) (o + 1)
    exact ⟨h2.os.trans h1.os, h2.tape.trans h1.tape, h2.output.trans h1.output, Nat.le_trans h1.size h2.size, fun k hk hne => (h2.block k (Nat.lt_of_lt_of_le hk h1.size) hne).trans (h1.block k hk hne)⟩

section
variable {α : Type} {w : World} {B : Nat} {T : TypeId} {k : Nat} {f : α → List Value} {g cap : Nat} {xs : List α}
theorem flat_take (hk : ∀ x, (f x).length = k) (xs : List α) (m : Nat) : (xs.flatMap f).take (m * k) = (xs.take m).flatMap f := by
  induction xs generalizing m with
  | nil => simp
  | cons x xs ih =>
    cases m with
    | zero => simp
    | succ m => rw [List.take_succ_cons, List.flatMap_cons, List.flatMap_cons, Nat.add_mul, Nat.one_mul, Nat.add_comm, List.take_append, List.take_of_length_le (by rw [hk]; omega), hk, Nat.add_sub_cancel_left, ih]
theorem flat_drop (hk : ∀ x, (f x).length = k) (xs : List α) (m : Nat) : (xs.flatMap f).drop (m * k) = (xs.drop m).flatMap f := by
  induction xs generalizing m with
  | nil => simp
  | cons x xs ih =>
    cases m with
    | zero => simp
    | succ m => rw [List.drop_succ_cons, List.flatMap_cons, Nat.add_mul, Nat.one_mul, Nat.add_comm, List.drop_append, List.drop_of_length_le (by rw [hk]; omega), hk, Nat.add_sub_cancel_left, ih, List.nil_append]
/-- the row of an owned slice -/
theorem OwnL.row {a : Option Addr} {n : Nat} (h : OwnL w B T k f (.slice a n cap) xs) (hn : 0 < xs.length) : ∃ g cur, a = some ⟨g, 0, none⟩ ∧ n = xs.length ∧ B ≤ g ∧ w.heap[g]? = some (.cells cur T (0, 0)) ∧ xs.length ≤ cap ∧ cap ≤ maxLen ∧ cur.size = cap * k ∧ cur.toList.take (xs.length * k) = xs.flatMap f := by
  rcases h.2 with ⟨_, h0⟩ | ⟨g, cap', cur, hv, h1, h2, h3, h4, h5, h6⟩
  · omega
  · cases hv
    exact ⟨g, cur, rfl, rfl, h1, h2, h3, h4, h5, h6⟩
theorem OwnL.row' (h : OwnL w B T k f (.slice (some ⟨g, 0, none⟩) xs.length cap) xs) : ∃ cur, B ≤ g ∧ w.heap[g]? = some (.cells cur T (0, 0)) ∧ xs.length ≤ cap ∧ cap ≤ maxLen ∧ cur.size = cap * k ∧ cur.toList.take (xs.length * k) = xs.flatMap f := by
  rcases h.2 with ⟨h0, _⟩ | ⟨g, cap', cur, hv, h1, h2, h3, h4, h5, h6⟩
  · cases h0
  · cases hv
    exact ⟨cur, h1, h2, h3, h4, h5, h6⟩
theorem OwnL.there (h : OwnL w B T k f (.slice (some ⟨g, 0, none⟩) xs.length cap) xs) (j : Nat) (hj : j < cap * k) : (w.cell? ⟨g, j, none⟩).isSome = true ∧ w.frozen? ⟨g, j, none⟩ = false := by
  obtain ⟨cur, _, h2, _, _, h5, _⟩ := h.row'
  refine ⟨?_, by simp [World.frozen?, h2]⟩
  simp only [World.cell?, h2]
  rw [← h5] at hj
  simp [hj]
theorem OwnL.cell (hk : ∀ x, (f x).length = k) (h : OwnL w B T k f (.slice (some ⟨g, 0, none⟩) xs.length cap) xs) (i j : Nat) (u : Value) (hu : ((xs.drop i).flatMap f)[j]? = some u) : w.cell? ⟨g, i * k + j, none⟩ = some u := by
  obtain ⟨cur, _, h2, _, _, h5, h6⟩ := h.row'
  simp only [World.cell?, h2]
  rw [← flat_drop hk, ← h6, List.getElem?_drop, List.getElem?_take] at hu
  split at hu
  · simpa using hu
  · cases hu
/-- elements written from the i-th on; the slice has m elements then -/
theorem OwnL.write (hk : ∀ x, (f x).length = k) (h : OwnL w B T k f (.slice (some ⟨g, 0, none⟩) xs.length cap) xs) (i : Nat) (ys : List α) (hi : i ≤ xs.length) (hiy : i + ys.length ≤ cap) (m : Nat) (zs : List α)
    (hz : zs = (xs.take i ++ ys ++ xs.drop (i + ys.length)).take m) (hm : zs.length = m) (o : Nat) (ho : o = i * k) (cs : List Value) (hcs : cs = ys.flatMap f) :
    OwnL (w.setCells g o cs) B T k f (.slice (some ⟨g, 0, none⟩) m cap) zs := by
  subst ho
  subst hcs
  obtain ⟨cur, h1, h2, h3, h4, h5, h6⟩ := h.row'
  have hyl : (ys.flatMap f).length = ys.length * k := flat_len f k hk ys
  have hfit : i * k + (ys.flatMap f).length ≤ cur.size := by
    rw [hyl, h5, ← Nat.add_mul]
    exact Nat.mul_le_mul_right _ hiy
  have hlist : ∃ rest, (setA cur (i * k) (ys.flatMap f)).toList = (xs.take i ++ ys ++ xs.drop (i + ys.length)).flatMap f ++ rest := by
    rw [setA_list _ _ _ hfit]
    have e1 : cur.toList.take (i * k) = (xs.take i).flatMap f := by
      rw [← flat_take hk, ← h6, List.take_take, Nat.min_eq_left (Nat.mul_le_mul_right _ hi)]
    have e2 : cur.toList = xs.flatMap f ++ cur.toList.drop (xs.length * k) := by rw [← h6, List.take_append_drop]
    rw [e1, hyl, ← Nat.add_mul]
    refine ⟨(cur.toList.drop (xs.length * k)).drop ((i + ys.length) * k - xs.length * k), ?_⟩
    rw [List.flatMap_append, List.flatMap_append, List.append_assoc, List.append_assoc, List.append_assoc]
    congr 2
    rw [e2, List.drop_append, flat_drop hk, flat_len f k hk, ← e2]
  obtain ⟨rest, hr⟩ := hlist
  refine ⟨by rw [hm]; rw [flat_len f k hk, hm], .inr ⟨g, cap, _, by rw [hm], h1, heap_setCells _ _ _ _ h2, ?_, h4, by rw [setA_size, h5], ?_⟩⟩
  · have : (xs.take i ++ ys ++ xs.drop (i + ys.length)).length ≤ cap := by
      simp only [List.length_append, List.length_take, List.length_drop]
      omega
    have h9 := congrArg List.length hz
    rw [List.length_take] at h9
    omega
  · have h9 := congrArg List.length hz
    rw [List.length_take] at h9
    rw [hr, hm, hz, ← flat_take hk, List.take_append_of_le_length]
    rw [flat_len f k hk]
    exact Nat.mul_le_mul_right _ (by omega)
/-- fewer elements of the same row -/
theorem OwnL.less (hk : ∀ x, (f x).length = k) (h : OwnL w B T k f (.slice (some ⟨g, 0, none⟩) xs.length cap) xs) (i : Nat) (hi : i ≤ xs.length) : OwnL w B T k f (.slice (some ⟨g, 0, none⟩) i cap) (xs.take i) := by
  have hl : (xs.take i).length = i := by rw [List.length_take]; omega
  have := h.write hk 0 [] (by omega) (by simp) i (xs.take i) (by simp) hl 0 (by simp) [] rfl
  simpa [World.setCells] using this
end

/-- zero values, as elements -/
theorem zeroCells_flat {α : Type} (f : α → List Value) (k : Nat) (hk : ∀ x, (f x).length = k) (h0 : 0 < k) (z : Array Value) (zx : α) (hz : z.toList = f zx) (n : Nat) : (Builtin.zeroCells z n).toList = (List.replicate n zx).flatMap f := by
  have hs : z.size = k := by rw [← Array.length_toList, hz, hk]
  apply List.ext_getElem?
  intro t
  have e : t / k * k + t % k = t := by rw [Nat.mul_comm]; exact Nat.div_add_mod t k
  have hm := Nat.mod_lt t h0
  conv => rhs; rw [← e, flat_get f k hk _ _ _ hm]
  have hq : (f zx)[t % k]? = some z[t % k]! := by
    rw [← hz, Array.getElem?_toList, getElem!_pos z (t % k) (by omega), Array.getElem?_eq_getElem (by omega)]
  by_cases h : t < n * k
  · have hd : t / k < n := (Nat.div_lt_iff_lt_mul h0).2 h
    rw [List.getElem?_replicate, if_pos hd]
    simp only [Option.bind_some, hq]
    simp [Builtin.zeroCells, hs, h]
  · have hd : ¬ t / k < n := fun g => h ((Nat.div_lt_iff_lt_mul h0).1 g)
    rw [List.getElem?_replicate, if_neg hd]
    simp [Builtin.zeroCells, hs]
    omega

section
variable {P : Program}
/-- 'copy' at elements of k cells -/
theorem run_copy_k (w : World) (dT sT ty elem : TypeId) (k b o dLen dCap : Nat) (a : Addr) (sLen sCap n : Nat) (cs : List Value)
    (hu : P.underlying dT = some (.slice elem)) (hs : (P.info? elem).map (·.size) = some k) (hn : Nat.min sLen dLen = n) (hcs : cs.length = n * k)
    (hsrc : ∀ j v, cs[j]? = some v → w.cell? (a.add j) = some v) (hc : ∀ j, j < cs.length → (w.cell? ⟨b, o + j, none⟩).isSome = true) (hf : ∀ j, j < cs.length → w.frozen? ⟨b, o + j, none⟩ = false) (h1 : ∀ v ∈ cs, v.oneCell' = true) :
    (Builtin.copy_ #[dT, sT] ty #[.slice (some ⟨b, o, none⟩) dLen dCap, .slice (some a) sLen sCap]).run P w = .ok (goInt n) (w.setCells b o cs) := by
  have hl := run_loadCells_list (P := P) w a cs hsrc
  have hst := run_storeCells_cells (P := P) b o cs 0 w (by simpa using hc) (by simpa using hf) h1
  have hn' : min sLen dLen = n := hn
  cases hq : P.info? elem with
  | none => simp [hq] at hs
  | some i =>
    have hi : i.size = k := by simpa [hq] using hs
    simp [Builtin.copy_, run_underlying hu, Builtin.lenOf, Builtin.firstCells, sizeOf, typeInfo, hq, hi, hn', ← hcs, hl, hst]
/-- 'clear' of one element of several cells -/
theorem run_clear_one (w : World) (t e ty : TypeId) (z : Value) (ht : P.underlying t = some (.slice e)) (hv : ∀ w, (zeroValue e).run P w = .ok z w) (b o c : Nat) (h1 : ∀ v ∈ z.cells, v.oneCell' = true)
    (hc : ∀ j, j < z.cells.size → (w.cell? ⟨b, o + j, none⟩).isSome = true) (hf : ∀ j, j < z.cells.size → w.frozen? ⟨b, o + j, none⟩ = false) :
    (Builtin.clear_ #[t] ty #[.slice (some ⟨b, o, none⟩) 1 c]).run P w = .ok (.tuple #[]) (w.setCells b o z.cells.toList) := by
  have hzc : (Builtin.zeroCells z.cells 1).toList = z.cells.toList := by
    apply List.ext_getElem
    · simp [Builtin.zeroCells]
    · intro i h1 h2
      simp at h2
      simp [Builtin.zeroCells, Nat.mod_eq_of_lt h2, h2]
  have hst := run_storeCells_cells (P := P) b o z.cells.toList 0 w (by simpa using hc) (by simpa using hf) (by simpa using h1)
  simp only [Nat.add_zero] at hst
  simp [Builtin.clear_, run_underlying ht, hv, hzc, hst]
/-- 'append' where there is room, as an equation -/
theorem run_append_room_k (w : World) (t ty e : TypeId) (k : Nat) (ht : P.underlying t = some (.slice e)) (hs : (P.info? e).map (·.size) = some k) (b off n cap : Nat) (ad : Addr) (m c : Nat) (news : List Value) (hl : news.length = m * k)
    (hc : ∀ j u, news[j]? = some u → w.cell? (ad.add j) = some u) (h1 : ∀ u ∈ news, u.oneCell' = true) (hroom : n + m ≤ cap)
    (hsp : ∀ j, j < news.length → (w.cell? ⟨b, off + n * k + j, none⟩).isSome = true ∧ w.frozen? ⟨b, off + n * k + j, none⟩ = false) :
    (Builtin.append_ #[t, t] ty #[.slice (some ⟨b, off, none⟩) n cap, .slice (some ad) m c]).run P w = .ok (.slice (some ⟨b, off, none⟩) (n + m) cap) (w.setCells b (off + n * k) news) := by
  cases hq : P.info? e with
  | none => simp [hq] at hs
  | some i =>
    have hi : i.size = k := by simpa [hq] using hs
    subst hi
    exact run_append_room_cells (P := P) w t ty e i ht hq b off n cap ad m c news hl hc h1 hroom (fun j hj => (hsp j hj).1) (fun j hj => (hsp j hj).2)
theorem wp_copy_runL (w : World) {o : Oper} {a : Act} {K : Act → World → Prop} {Q : Exit → Act → World → Prop} (d s : Operand) (t t' : TypeId)
    (ho : o.op = .call { callee := .builtin .copy, args := #[d, s], argTypes := #[t, t'] }) (v u : Value) (hd : a.eval d = v) (hs : a.eval s = u) {v' : Value} {w' : World}
    (hr : (Builtin.copy_ #[t, t'] o.type #[v, u]).run P w = .ok v' w') (h : K (a.put o.dst v') w') : o.wp P a w K Q := by
  unfold Oper.wp execOp
  simp only [ho, resolve, invoke, builtin, Sem.run_bind, Sem.run_pure, Result.andThen_ok, List.map_toArray, List.map_cons, List.map_nil, hd, hs, hr]
  exact h
theorem wpList_copy_runL (w : World) {ops : Array Oper} {rest : List Oper} {o : Oper} {a : Act} {Q : Exit → Act → World → Prop} (hgd : o.guard = none) (d s : Operand) (t t' : TypeId)
    (ho : o.op = .call { callee := .builtin .copy, args := #[d, s], argTypes := #[t, t'] }) (v u : Value) (hd : a.eval d = v) (hs : a.eval s = u) {v' : Value} {w' : World}
    (hr : (Builtin.copy_ #[t, t'] o.type #[v, u]).run P w = .ok v' w') (h : wpList P ops Q rest (a.put o.dst v') w') : wpList P ops Q (o :: rest) a w :=
  wpList_plain hgd fun _ hK => wp_copy_runL w d s t t' ho v u hd hs hr (hK _ _ h)
theorem step_copy_runL {ops : Array Oper} {o : Oper} {a : Act} {w : World} {K : Act → World → Prop} {Q : Exit → Act → World → Prop} {E : Prop}
    (hg : o.guard = none) (d x : Operand) (dT sT : TypeId) (hop : o.op = Op.call { callee := Callee.builtin Builtin.copy, args := #[d, x], argTypes := #[dT, sT] })
    (v u : Value) (hd : a.eval d = v) (hx : a.eval x = u) {v' : Value} {w' : World} (hr : (Builtin.copy_ #[dT, sT] o.type #[v, u]).run P w = .ok v' w') (hK : K (a.put o.dst v') w') :
    if Region.wanted o (yielded ops a.tmps) = true then Oper.wp P o a w K Q else E := by
  have hw : Region.wanted o (yielded ops a.tmps) = true := by simp [Region.wanted, hg]
  rw [if_pos hw]
  unfold Oper.wp
  simp [execOp, hop, resolve, invoke, builtin, hd, hx, hr, Result.andThen]
  exact hK
theorem step_append_runL {ops : Array Oper} {o : Oper} {a : Act} {w : World} {K : Act → World → Prop} {Q : Exit → Act → World → Prop} {E : Prop}
    (hg : o.guard = none) (d x : Operand) (dT sT : TypeId) (hop : o.op = Op.call { callee := Callee.builtin Builtin.append, args := #[d, x], argTypes := #[dT, sT] })
    (v u : Value) (hd : a.eval d = v) (hx : a.eval x = u) {v' : Value} {w' : World} (hr : (Builtin.append_ #[dT, sT] o.type #[v, u]).run P w = .ok v' w') (hK : K (a.put o.dst v') w') :
    if Region.wanted o (yielded ops a.tmps) = true then Oper.wp P o a w K Q else E := by
  have hw : Region.wanted o (yielded ops a.tmps) = true := by simp [Region.wanted, hg]
  rw [if_pos hw]
  unfold Oper.wp
  simp [execOp, hop, resolve, invoke, builtin, hd, hx, hr, Result.andThen]
  exact hK
theorem wp_clear_runL (w : World) {o : Oper} {a : Act} {K : Act → World → Prop} {Q : Exit → Act → World → Prop} (d : Operand) (t : TypeId)
    (ho : o.op = .call { callee := .builtin .clear, args := #[d], argTypes := #[t] }) (v : Value) (hd : a.eval d = v) {v' : Value} {w' : World}
    (hr : (Builtin.clear_ #[t] o.type #[v]).run P w = .ok v' w') (h : K (a.put o.dst v') w') : o.wp P a w K Q := by
  unfold Oper.wp execOp
  simp only [ho, resolve, invoke, builtin, Sem.run_bind, Sem.run_pure, Result.andThen_ok, List.map_toArray, List.map_cons, List.map_nil, hd, hr]
  exact h
theorem wpList_clear_runL (w : World) {ops : Array Oper} {rest : List Oper} {o : Oper} {a : Act} {Q : Exit → Act → World → Prop} (hgd : o.guard = none) (d : Operand) (t : TypeId)
    (ho : o.op = .call { callee := .builtin .clear, args := #[d], argTypes := #[t] }) (v : Value) (hd : a.eval d = v) {v' : Value} {w' : World}
    (hr : (Builtin.clear_ #[t] o.type #[v]).run P w = .ok v' w') (h : wpList P ops Q rest (a.put o.dst v') w') : wpList P ops Q (o :: rest) a w :=
  wpList_plain hgd fun _ hK => wp_clear_runL w d t ho v hd hr (hK _ _ h)
end
end Go.Proofs.Ytoemjpfoddeinaa.Ls
