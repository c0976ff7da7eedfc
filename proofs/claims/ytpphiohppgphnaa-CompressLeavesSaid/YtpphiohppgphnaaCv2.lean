/-
  Compress: the walk of slices.DeleteFunc with the test 'amount 0'.
-/
import Derived.Test.YtpphiohppgphnaaCv1
namespace Go.Proofs.Ytpphiohppgphnaa.Cs
open Go.RowKit Go.Proofs.Ytpphiohppgphnaa Go.Proofs.Ytpphiohppgphnaa.Ls Go.Proofs.Ytpphiohppgphnaa.Kb Go.Proofs.Ytpphiohppgphnaa.Cz
open Go.Proofs.Ytpphiohppgphnaa.Nm hiding ret_bool ret_int hb'

/-- the trades whose amount is not 0 -/
def nzl (xs : List Tr) : List Tr := xs.filter fun x => !(x.amt == 0)
theorem nzl_succ (xs : List Tr) (J : Nat) (hJ : J < xs.length) : nzl (xs.take (J + 1)) = if (gt xs J).amt = 0 then nzl (xs.take J) else nzl (xs.take J) ++ [gt xs J] := by
  unfold nzl
  rw [List.take_succ_eq_append_getElem hJ, List.filter_append, ← gt_at xs J hJ, List.filter_cons, List.filter_nil]
  by_cases h : (gt xs J).amt = 0
  · rw [if_pos h, if_neg (by simp [h]), List.append_nil]
  · rw [if_neg h, if_pos (by simp [h])]
theorem nzl_none (xs : List Tr) (J : Nat) (h : ∀ j, j < J → (gt xs j).amt ≠ 0) (hJ : J ≤ xs.length) : nzl (xs.take J) = xs.take J := by
  unfold nzl
  rw [List.filter_eq_self]
  intro x hx
  obtain ⟨i, hi, rfl⟩ := mem_gt hx
  rw [List.length_take] at hi
  have e : gt (xs.take J) i = gt xs i := by
    unfold gt
    rw [List.getD_eq_getElem?_getD, List.getD_eq_getElem?_getD, List.getElem?_take, if_pos (by omega)]
  rw [e]
  simpa using h i (by omega)
/-- between two rounds -/
structure DlI (w : World) (g cap B : Nat) (xs : List Tr) (I J : Nat) (zs : List Tr) (v : World) : Prop where
  ij : I ≤ J
  jn : J ≤ xs.length
  len : zs.length = xs.length
  fst : zs.take I = nzl (xs.take J)
  rest : zs.drop J = xs.drop J
  own : OwnL v B 31 4 trc (.slice (some ⟨g, 0, none⟩) xs.length cap) zs
  grown : w.grownBy v (some g)
theorem DlI.at_ {w v : World} {g cap B : Nat} {xs zs : List Tr} {I J : Nat} (h : DlI w g cap B xs I J zs v) (_hJ : J < xs.length) : gt zs J = gt xs J := by
  have := congrArg (fun l => l[0]?) h.rest
  simp only [List.getElem?_drop, Nat.add_zero] at this
  unfold gt
  rw [List.getD_eq_getElem?_getD, List.getD_eq_getElem?_getD, this]
theorem grown_below {w v v' : World} {r : Option Nat} (h : w.grownBy v r) (hb : Below v.heap.size v v') : w.grownBy v' r :=
  ⟨hb.os.trans h.os, hb.tape.trans h.tape, hb.output.trans h.output, Nat.le_trans h.size hb.size, fun k hk hne => (hb.block k (Nat.lt_of_lt_of_le hk h.size)).trans (h.block k hk hne)⟩
theorem grown_trans {w v v' : World} {r : Option Nat} (h : w.grownBy v r) (k : v.grownBy v' r) : w.grownBy v' r :=
  ⟨k.os.trans h.os, k.tape.trans h.tape, k.output.trans h.output, Nat.le_trans h.size k.size, fun b hb hne => (k.block b (Nat.lt_of_lt_of_le hb h.size) hne).trans (h.block b hb hne)⟩
theorem DlI.skip {w v v' : World} {g cap B : Nat} {xs zs : List Tr} {I J : Nat} (h : DlI w g cap B xs I J zs v) (hJ : J < xs.length) (hz : (gt xs J).amt = 0) (hb : Below v.heap.size v v') : DlI w g cap B xs I (J + 1) zs v' :=
  ⟨Nat.le_succ_of_le h.ij, hJ, h.len, by rw [nzl_succ xs J hJ, if_pos hz]; exact h.fst, by rw [← List.drop_drop, h.rest, List.drop_drop], h.own.below hb, grown_below h.grown hb⟩
theorem DlI.keep_ {w v v' : World} {g cap B : Nat} {xs zs : List Tr} {I J : Nat} (h : DlI w g cap B xs I J zs v) (hJ : J < xs.length) (hz : (gt xs J).amt ≠ 0) (hb : Below v.heap.size v v') (o : Nat) (ho : o = I * 4) (cs : List Value) (hcs : cs = trc (gt xs J)) :
    DlI w g cap B xs (I + 1) (J + 1) (zs.take I ++ [gt xs J] ++ zs.drop (I + 1)) (v'.setCells g o cs) := by
  have hij := h.ij
  have hl := h.len
  have hc : xs.length ≤ cap := Nat.le_trans (Nat.le_of_eq hl.symm) (h.own.sl trc_len).2.2
  have hO := h.own.below hb
  rw [← hl] at hO
  have hz2 : (zs.take I ++ [gt xs J] ++ zs.drop (I + 1)).length = xs.length := by simp; omega
  refine ⟨by omega, hJ, hz2, ?_, ?_, ?_, grown_trans (grown_below h.grown hb) (grown_setCells _ _ _ _)⟩
  · rw [nzl_succ xs J hJ, if_neg hz, ← h.fst]
    exact List.take_left' (by simp; omega)
  · have e : (zs.take I ++ [gt xs J]).length = I + 1 := by simp; omega
    rw [List.drop_append, List.drop_of_length_le (by omega), List.nil_append, e, List.drop_drop, show I + 1 + (J + 1 - (I + 1)) = J + 1 by omega, ← List.drop_drop, h.rest, List.drop_drop]
  · exact hO.write trc_len I [gt xs J] (by omega) (by simp; omega) xs.length _ (by rw [List.length_singleton]; exact (List.take_of_length_le (Nat.le_of_eq hz2)).symm) hz2 o ho cs (by rw [hcs]; simp)
/-- 'clear' of elements of several cells -/
theorem run_clear_many {P : Program} (w : World) (t e ty : TypeId) (z : Value) (m : Nat) (ht : P.underlying t = some (.slice e)) (hv : ∀ w, (zeroValue e).run P w = .ok z w) (b o c : Nat) (h1 : ∀ v ∈ (Builtin.zeroCells z.cells m).toList, v.oneCell' = true)
    (hc : ∀ j, j < (Builtin.zeroCells z.cells m).size → (w.cell? ⟨b, o + j, none⟩).isSome = true) (hf : ∀ j, j < (Builtin.zeroCells z.cells m).size → w.frozen? ⟨b, o + j, none⟩ = false) :
    (Builtin.clear_ #[t] ty #[.slice (some ⟨b, o, none⟩) m c]).run P w = .ok (.tuple #[]) (w.setCells b o (Builtin.zeroCells z.cells m).toList) := by
  cases m with
  | zero => simp [Builtin.clear_, run_underlying ht, Builtin.zeroCells, World.setCells]
  | succ m =>
    have hst := run_storeCells_cells (P := P) b o (Builtin.zeroCells z.cells (m + 1)).toList 0 w (by simpa using hc) (by simpa using hf) h1
    simp only [Nat.add_zero] at hst
    simp [Builtin.clear_, run_underlying ht, hv, hst]
theorem size_trd : (Try.prog.info? 31).map (·.size) = some 4 := by kernel_rfl
theorem zero_trd (w : World) : (zeroValue 31).run Try.prog w = .ok (Value.agg #[.string ⟨#[]⟩, .string ⟨#[]⟩, .string ⟨#[]⟩, .int .i64 0]) w := Try.zeroValue31 w
/-- behind the loop: the rest is cleared -/
theorem DlI.fin {w v : World} {g cap B : Nat} {xs zs : List Tr} {I : Nat} (h : DlI w g cap B xs I xs.length zs v) : I = (nzl xs).length ∧ ∃ W, OwnL W B 31 4 trc (.slice (some ⟨g, 0, none⟩) (nzl xs).length cap) (nzl xs) ∧ w.grownBy W (some g) ∧
    (cap ≠ I → ∀ ty, (Builtin.clear_ #[22] ty #[.slice (some ⟨g, I * 4, none⟩) (xs.length - I) (cap - I)]).run Try.prog v = .ok (.tuple #[]) W) ∧ (cap = I → ∀ ty a c, (Builtin.clear_ #[22] ty #[.slice (some a) (xs.length - I) c]).run Try.prog v = .ok (.tuple #[]) W) := by
  have hf := h.fst
  rw [List.take_length] at hf
  have hij := h.ij
  have hl := h.len
  have hI : I = (nzl xs).length := by rw [← hf, List.length_take]; omega
  have hc : xs.length ≤ cap := Nat.le_trans (Nat.le_of_eq hl.symm) (h.own.sl trc_len).2.2
  have hO := h.own
  rw [← hl] at hO
  refine ⟨hI, v.setCells g (I * 4) (Builtin.zeroCells #[.string ⟨#[]⟩, .string ⟨#[]⟩, .string ⟨#[]⟩, .int .i64 0] (xs.length - I)).toList, ?_, grown_trans h.grown (grown_setCells _ _ _ _), fun _ ty => ?_, fun e ty a c => ?_⟩
  · rw [← hI]
    refine hO.write trc_len I (List.replicate (xs.length - I) ⟨⟨#[]⟩, ⟨#[]⟩, ⟨#[]⟩, 0⟩) (by omega) (by rw [List.length_replicate]; omega) I _ ?_ hI.symm _ rfl _ (zeroCells_flat trc 4 trc_len (by decide) _ ⟨⟨#[]⟩, ⟨#[]⟩, ⟨#[]⟩, 0⟩ rfl _)
    rw [List.append_assoc, hf]
    exact (List.take_left' hI.symm).symm
  · have hzs : (Builtin.zeroCells #[.string ⟨#[]⟩, .string ⟨#[]⟩, .string ⟨#[]⟩, .int .i64 0] (xs.length - I)).size = (xs.length - I) * 4 := by
      rw [← Array.length_toList, zeroCells_flat trc 4 trc_len (by decide) _ ⟨⟨#[]⟩, ⟨#[]⟩, ⟨#[]⟩, 0⟩ rfl, flat_len trc 4 trc_len, List.length_replicate]
    have hle : (xs.length - I) * 4 + I * 4 ≤ cap * 4 := by rw [← Nat.add_mul]; exact Nat.mul_le_mul_right _ (by omega)
    refine run_clear_many v _ _ ty (Value.agg #[.string ⟨#[]⟩, .string ⟨#[]⟩, .string ⟨#[]⟩, .int .i64 0]) (xs.length - I) Try.underlying22 zero_trd g _ _ (fun u hu => ?_) (fun j hj => ?_) (fun j hj => ?_)
    · change u ∈ (Builtin.zeroCells #[.string ⟨#[]⟩, .string ⟨#[]⟩, .string ⟨#[]⟩, .int .i64 0] (xs.length - I)).toList at hu
      rw [zeroCells_flat trc 4 trc_len (by decide) _ ⟨⟨#[]⟩, ⟨#[]⟩, ⟨#[]⟩, 0⟩ rfl] at hu
      obtain ⟨x, _, hx⟩ := List.mem_flatMap.1 hu
      exact trc_one x u hx
    · change j < (Builtin.zeroCells #[.string ⟨#[]⟩, .string ⟨#[]⟩, .string ⟨#[]⟩, .int .i64 0] (xs.length - I)).size at hj
      exact (hO.there _ (by omega)).1
    · change j < (Builtin.zeroCells #[.string ⟨#[]⟩, .string ⟨#[]⟩, .string ⟨#[]⟩, .int .i64 0] (xs.length - I)).size at hj
      exact (hO.there _ (by omega)).2
  · rw [show xs.length - I = 0 by omega]
    simp [Builtin.clear_, run_underlying Try.underlying22, Builtin.zeroCells, World.setCells]
end Go.Proofs.Ytpphiohppgphnaa.Cs
