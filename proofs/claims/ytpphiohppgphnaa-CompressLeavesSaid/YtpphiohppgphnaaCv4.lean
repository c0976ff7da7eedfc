/-
  Compress: an amount is written in place; tearing in place.
-/
import Derived.Test.YtpphiohppgphnaaCv3
namespace Go.Proofs.Ytpphiohppgphnaa.Cs
open Go.RowKit Go.Proofs.Ytpphiohppgphnaa Go.Proofs.Ytpphiohppgphnaa.Ls Go.Proofs.Ytpphiohppgphnaa.Kb Go.Proofs.Ytpphiohppgphnaa.Cz
open Go.Proofs.Ytpphiohppgphnaa.Nm hiding ret_bool ret_int hb'

/-- trades of which the i-th has another amount -/
def setAmt (xs : List Tr) (i : Nat) (v : Int) : List Tr := xs.set i ⟨(gt xs i).fr, (gt xs i).to_, (gt xs i).con, v⟩
theorem setAmt_len (xs : List Tr) (i : Nat) (v : Int) : (setAmt xs i v).length = xs.length := List.length_set ..
theorem flat_setAmt (v : Int) : ∀ (xs : List Tr) (i : Nat), i < xs.length → (xs.flatMap trc).set (i * 4 + 3) (.int .i64 v) = (setAmt xs i v).flatMap trc := by
  intro xs
  induction xs with
  | nil => intro i h; cases h
  | cons x xs ih =>
    intro i h
    cases i with
    | zero => rfl
    | succ i =>
      have hi : i < xs.length := by simpa using h
      have e : setAmt (x :: xs) (i + 1) v = x :: setAmt xs i v := rfl
      rw [e, List.flatMap_cons, List.flatMap_cons, ← ih i hi]
      show ((Value.string x.fr) :: (Value.string x.to_) :: (Value.string x.con) :: (Value.int .i64 x.amt) :: xs.flatMap trc).set ((i + 1) * 4 + 3) _ = _
      rw [show (i + 1) * 4 + 3 = (i * 4 + 3) + 1 + 1 + 1 + 1 by omega]
      rfl
/-- the i-th trade's amount is written -/
theorem own_setAmt {w : World} {B g cap i : Nat} {xs : List Tr} (h : OwnL w B 31 4 trc (.slice (some ⟨g, 0, none⟩) xs.length cap) xs) (hi : i < xs.length) (v : Int) :
    OwnL (w.setCell ⟨g, i * 4 + 3, none⟩ (.int .i64 v)) B 31 4 trc (.slice (some ⟨g, 0, none⟩) xs.length cap) (setAmt xs i v) := by
  obtain ⟨cur, h1, h2, h3, h4, h5, h6⟩ := h.row'
  have hle : (i + 1) * 4 ≤ cap * 4 := Nat.mul_le_mul_right _ (by omega)
  have hl := setAmt_len xs i v
  have hs := setA_list [Value.int .i64 v] cur (i * 4 + 3) (by rw [h5]; simp; omega)
  refine ⟨by rw [flat_len trc 4 trc_len, hl], .inr ⟨g, cap, _, by rw [hl], h1, heap_setCells [Value.int .i64 v] w cur (i * 4 + 3) h2, by rw [hl]; exact h3, h4, by rw [setA_size, h5], ?_⟩⟩
  rw [hs, hl]
  have e : cur.toList.take (i * 4 + 3) ++ [Value.int .i64 v] ++ cur.toList.drop (i * 4 + 3 + [Value.int .i64 v].length) = cur.toList.set (i * 4 + 3) (.int .i64 v) := by
    rw [List.set_eq_take_append_cons_drop, if_pos (by rw [Array.length_toList, h5]; omega), List.append_assoc]
    rfl
  rw [e, List.take_set, h6, flat_setAmt v xs i hi]
theorem gt_setAmt (xs : List Tr) (i j : Nat) (v : Int) (hi : i < xs.length) : gt (setAmt xs i v) j = if j = i then ⟨(gt xs i).fr, (gt xs i).to_, (gt xs i).con, v⟩ else gt xs j := by
  unfold gt setAmt
  rw [List.getD_eq_getElem?_getD, List.getElem?_set]
  by_cases h : j = i
  · rw [if_pos h, if_pos h.symm, if_pos hi]
    rfl
  · rw [if_neg h, if_neg (fun e => h e.symm), ← List.getD_eq_getElem?_getD]
theorem ext_gt {a b : List Tr} (hl : a.length = b.length) (h : ∀ i, i < a.length → gt a i = gt b i) : a = b := by
  refine List.ext_getElem hl fun i h1 h2 => ?_
  rw [getElem_gt, getElem_gt]
  exact h i h1
section
variable {l : List Tr} {cs : List Nat}
theorem cut_zero (m : Int) : cut l cs m 0 = l := ext_gt (cut_len _ _ _ _) fun i hi => by
  rw [cut_len] at hi
  rw [cut_at l cs m 0 i hi]
  simp
theorem cut_step (hc : Cyc l cs) (m : Int) (k : Nat) (hk : k < cs.length) : gt (cut l cs m k) (tn cs k) = gt l (tn cs k) ∧ setAmt (cut l cs m k) (tn cs k) ((gt l (tn cs k)).amt - m) = cut l cs m (k + 1) := by
  have hlt := hc.lt k hk
  have h1 : gt (cut l cs m k) (tn cs k) = gt l (tn cs k) := by
    rw [cut_at l cs m k _ hlt, not_before hc.nodup hk]
    rfl
  refine ⟨h1, ext_gt (by rw [setAmt_len, cut_len, cut_len]) fun i hi => ?_⟩
  rw [setAmt_len, cut_len] at hi
  rw [gt_setAmt _ _ _ _ (by rw [cut_len]; exact hlt), h1, cut_at l cs m (k + 1) i hi, take_succ_has cs i k hk]
  by_cases e : i = tn cs k
  · subst e
    rw [if_pos rfl, decide_eq_true rfl, Bool.or_true, if_pos rfl]
    rfl
  · rw [if_neg e, decide_eq_false (fun h => e h.symm), Bool.or_false, cut_at l cs m k i hi]
theorem lst_at0 (hv : vldB l = true) (hc : Cyc l cs) : min (gt l (tn cs 0)).amt (lst l cs 0) = (gt l (tn cs 0)).amt := by
  have h := (okT_at hv _ (hc.lt 0 (by have := hc.two; omega))).2.2.2.2.2
  rw [show lst l cs 0 = 1125899906842624 from rfl]
  omega
theorem lst_end (hc : Cyc l cs) : min (gt l (tn cs 0)).amt (lst l cs cs.length) = lst l cs cs.length := by
  have := lst_le (l := l) (cs := cs) cs.length (Nat.le_refl _) 0 (by have := hc.two; omega)
  omega
theorem nzl_cut (hv : vldB l = true) (_hc : Cyc l cs) : nzl (cut l cs (lst l cs cs.length) cs.length) = torn l cs := by
  unfold nzl torn
  refine List.filter_congr fun x hx => ?_
  obtain ⟨i, hi, rfl⟩ := mem_gt hx
  rw [cut_len] at hi
  have h0 := (okT_at hv i hi).2.2.2.2
  have h : 0 ≤ (gt (cut l cs (lst l cs cs.length) cs.length) i).amt := by
    rw [cut_at l cs _ _ i hi, List.take_length]
    split
    · rename_i h
      rw [List.contains_iff_mem, List.mem_iff_getElem] at h
      obtain ⟨j, hj, e⟩ := h
      have := lst_le (l := l) (cs := cs) cs.length (Nat.le_refl _) j hj
      rw [tn_at cs j hj, e] at this
      show 0 ≤ (gt l i).amt - _
      omega
    · omega
  rw [Bool.eq_iff_iff]
  simp
  omega
end
theorem own_neq_blk {w : World} {B g n cap n2 c2 : Nat} {a : Option Addr} {xs : List Tr} {is : List Int} (h : OwnL w B 31 4 trc (.slice (some ⟨g, 0, none⟩) n cap) xs) (k : OwnL w B 3 1 ic (.slice a n2 c2) is) : (Value.slice a n2 c2).ownBlock ≠ some g := fun e => by
  obtain ⟨cs, hc⟩ := own_in h g rfl
  obtain ⟨cs', hc'⟩ := own_in k g e
  rw [hc] at hc'
  cases hc'
end Go.Proofs.Ytpphiohppgphnaa.Cs
