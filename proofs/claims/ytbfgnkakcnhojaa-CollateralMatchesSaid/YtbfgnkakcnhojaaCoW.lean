/-
  Collateral, plain: the holdings of one issuer, and those of the others.
-/
import Derived.Test.YtbfgnkakcnhojaaCoU
namespace Go.Proofs.Ytbfgnkakcnhojaa.Co
open Go.RowKit Go.Proofs.Ytbfgnkakcnhojaa Go.Proofs.Ytbfgnkakcnhojaa.Ls Go.Proofs.Ytbfgnkakcnhojaa.Kb
open Go.Proofs.Ytbfgnkakcnhojaa.Nm hiding ret_bool ret_int

theorem pair_of {L : List (ByteArray × Int)} (h : Sorted L.length fun i => (gi L i).1) : L.Pairwise fun x y => lt x.1 y.1 = true := by
  rw [List.pairwise_iff_getElem]
  intro i j hi hj hij
  rw [← gi_at L i hi, ← gi_at L j hj]
  exact h.lt i j hij hj
theorem of_pair {L : List (ByteArray × Int)} (h : L.Pairwise fun x y => lt x.1 y.1 = true) : Sorted L.length fun i => (gi L i).1 := by
  intro i h0 hi
  rw [List.pairwise_iff_getElem] at h
  show lt (gi L (i - 1)).1 (gi L i).1 = true
  rw [gi_at L i hi, gi_at L (i - 1) (by omega)]
  exact h (i - 1) i (by omega) hi (by omega)
theorem hol_sub {L M : List (ByteArray × Int)} (h : holB L = true) (hs : M.Sublist L) : holB M = true := by
  refine holB_mk (Nat.le_trans hs.length_le (holB_len h)) (of_pair ((pair_of (holB_sorted h)).sublist hs)) fun i hi => ?_
  have hm : gi M i ∈ L := hs.subset (by rw [gi_at M i hi]; exact List.getElem_mem _)
  obtain ⟨j, hj, e⟩ := List.mem_iff_getElem.1 hm
  rw [← e, ← gi_at L j hj]
  exact holB_at h j hj
theorem fit_sub {A : List As} {I L M : List (ByteArray × Int)} (h : fitB A I L = true) (hs : M.Sublist L) : fitB A I M = true := by
  refine fit_mk (fit_parts h).1 (hol_sub (fit_parts h).2.1 hs) fun i hi => ?_
  have hm : gi M i ∈ L := hs.subset (by rw [gi_at M i hi]; exact List.getElem_mem _)
  obtain ⟨j, hj, e⟩ := List.mem_iff_getElem.1 hm
  rw [← e, ← gi_at L j hj]
  exact (fit_parts h).2.2 j hj
theorem sub_sz {L M : List (ByteArray × Int)} (h : SzL L) (hs : M.Sublist L) : SzL M := szL_of fun x hx => by
  obtain ⟨j, hj, e⟩ := List.mem_iff_getElem.1 (hs.subset hx)
  rw [← e, ← gi_at L j hj]
  exact h j
/-- is a holding's asset of this issuer? -/
def ofI (A : List As) (t : ByteArray) (h : ByteArray × Int) : Bool := decide ((asF A h.1).iss = t)
theorem order_facts {A : List As} {I L : List (ByteArray × Int)} (t : ByteArray) (h : fitB A I L = true) :
    vF A I L = vF A I (L.filter (ofI A t)) + vF A I (L.filter fun x => !ofI A t x) ∧ fitB A I (L.filter (ofI A t)) = true ∧ fitB A I (L.filter fun x => !ofI A t x) = true := by
  have h1 := fit_sub h (List.filter_sublist (p := ofI A t) (l := L))
  have h2 := fit_sub h (List.filter_sublist (p := fun x => !ofI A t x) (l := L))
  refine ⟨?_, h1, h2⟩
  unfold vF
  rw [if_pos h, if_pos h1, if_pos h2, val_split (fun s => decide (s = t)) (mkP A L) (moF I) (moF I) (moF I) (fun _ _ => rfl) (fun _ _ => rfl)]
  have e1 : mkP A (L.filter (ofI A t)) = (mkP A L).filter fun x => decide (x.1.iss = t) := by
    unfold mkP
    rw [List.filter_map]
    rfl
  have e2 : mkP A (L.filter fun x => !ofI A t x) = (mkP A L).filter fun x => !decide (x.1.iss = t) := by
    unfold mkP
    rw [List.filter_map]
    rfl
  rw [e1, e2]
theorem vF_range (A : List As) (I L : List (ByteArray × Int)) : 0 ≤ vF A I L ∧ vF A I L ≤ 1125899906842624 := by
  unfold vF
  split
  · rename_i h
    have hF := fits_of h
    have h1 := val_range (mkP_in hF) (m := moF I) (fun t => (moF_range hF t).1)
    rw [mkP_len] at h1
    have := hF.lL
    omega
  · omega
end Go.Proofs.Ytbfgnkakcnhojaa.Co
