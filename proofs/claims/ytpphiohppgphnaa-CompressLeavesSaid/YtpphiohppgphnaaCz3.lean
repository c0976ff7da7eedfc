/-
  Compress, plain: the cycle's trades, one by one; trades with a cycle torn up.
-/
import Derived.Test.YtpphiohppgphnaaCz2
namespace Go.Proofs.Ytpphiohppgphnaa.Cz

section
variable {l : List Tr} {c T : ByteArray}
def tn (tr : List Nat) (j : Nat) : Nat := tr.getD j 0
/-- the j-th trade of a way: whose it is, how far its From is, where it leads -/
theorem grd_at {p : ByteArray} {d : Nat} {tr : List Nat} (h : Grd l c T p d tr) : Dist l c T p d → ∀ j, j < d → tn tr j < l.length ∧ (gt l (tn tr j)).con = c ∧ Dist l c T (gt l (tn tr j)).fr (d - j) ∧ (j = 0 → (gt l (tn tr j)).fr = p) ∧ (j + 1 < d → (gt l (tn tr j)).to_ = (gt l (tn tr (j + 1))).fr) ∧ (j + 1 = d → (gt l (tn tr j)).to_ = T) := by
  induction h with
  | nil => intro _ j hj; omega
  | cons p d k tr ho hd hk h ih =>
    intro hp j hj
    cases j with
    | zero =>
      show k < l.length ∧ (gt l k).con = c ∧ Dist l c T (gt l k).fr (d + 1) ∧ (0 = 0 → (gt l k).fr = p) ∧ (0 + 1 < d + 1 → (gt l k).to_ = (gt l (tn tr 0)).fr) ∧ (0 + 1 = d + 1 → (gt l k).to_ = T)
      refine ⟨ho.1, ho.2.1, by rw [ho.2.2]; exact hp, fun _ => ho.2.2, fun g => ((ih hd 0 (by omega)).2.2.2.1 rfl).symm, fun g => ?_⟩
      obtain rfl : d = 0 := by omega
      exact hd.1
    | succ j =>
      have := ih hd j (by omega)
      show tn tr j < l.length ∧ (gt l (tn tr j)).con = c ∧ Dist l c T (gt l (tn tr j)).fr (d + 1 - (j + 1)) ∧ (j + 1 = 0 → (gt l (tn tr j)).fr = p) ∧ (j + 1 + 1 < d + 1 → (gt l (tn tr j)).to_ = (gt l (tn tr (j + 1))).fr) ∧ (j + 1 + 1 = d + 1 → (gt l (tn tr j)).to_ = T)
      rw [show d + 1 - (j + 1) = d - j by omega]
      exact ⟨this.1, this.2.1, this.2.2.1, fun g => by omega, fun g => this.2.2.2.2.1 (by omega), fun g => this.2.2.2.2.2 (by omega)⟩
end
/-- a cycle of trades -/
structure Cyc (l : List Tr) (cs : List Nat) : Prop where
  two : 2 ≤ cs.length
  lt : ∀ j, j < cs.length → tn cs j < l.length
  con : ∀ j, j < cs.length → (gt l (tn cs j)).con = (gt l (tn cs 0)).con
  next : ∀ j, j + 1 < cs.length → (gt l (tn cs j)).to_ = (gt l (tn cs (j + 1))).fr
  last : (gt l (tn cs (cs.length - 1))).to_ = (gt l (tn cs 0)).fr
  diff : ∀ i j, i < cs.length → j < cs.length → (gt l (tn cs i)).fr = (gt l (tn cs j)).fr → i = j
theorem cyc_of {l : List Tr} {i d : Nat} {tr : List Nat} (hi : i < l.length) (hne : (gt l i).fr ≠ (gt l i).to_) (hd : Dist l (gt l i).con (gt l i).fr (gt l i).to_ d) (hg : Grd l (gt l i).con (gt l i).fr (gt l i).to_ d tr) : Cyc l (i :: tr) := by
  have hl := hg.len
  have hA := grd_at hg hd
  have hd0 : 1 ≤ d := by
    rcases Nat.eq_zero_or_pos d with e | e
    · subst e
      exact absurd hd.1.symm hne
    · exact e
  have hD : ∀ j, j ≤ d → (j = 0 → tn (i :: tr) j = i) ∧ (0 < j → tn (i :: tr) j = tn tr (j - 1)) := fun j hj => by
    cases j with
    | zero => exact ⟨fun _ => rfl, fun h => by omega⟩
    | succ j => exact ⟨fun h => by omega, fun _ => rfl⟩
  -- how far each From is: the first one's is the target itself
  have hF : ∀ j, j ≤ d → Dist l (gt l i).con (gt l i).fr (gt l (tn (i :: tr) j)).fr (if j = 0 then 0 else d - (j - 1)) := fun j hj => by
    by_cases e : j = 0
    · rw [if_pos e, (hD j hj).1 e]
      exact ⟨rfl, fun _ _ => Nat.zero_le _⟩
    · rw [if_neg e, (hD j hj).2 (by omega)]
      exact (hA (j - 1) (by omega)).2.2.1
  refine ⟨by rw [List.length_cons, hl]; omega, fun j hj => ?_, fun j hj => ?_, fun j hj => ?_, ?_, fun a b ha hb h => ?_⟩
  · rw [List.length_cons, hl] at hj
    by_cases e : j = 0
    · rw [(hD j (by omega)).1 e]; exact hi
    · rw [(hD j (by omega)).2 (by omega)]; exact (hA (j - 1) (by omega)).1
  · rw [List.length_cons, hl] at hj
    rw [(hD 0 (by omega)).1 rfl]
    by_cases e : j = 0
    · rw [(hD j (by omega)).1 e]
    · rw [(hD j (by omega)).2 (by omega)]; exact (hA (j - 1) (by omega)).2.1
  · rw [List.length_cons, hl] at hj
    rw [(hD (j + 1) (by omega)).2 (by omega), show j + 1 - 1 = j by omega]
    by_cases e : j = 0
    · subst e
      rw [(hD 0 (by omega)).1 rfl]
      exact ((hA 0 (by omega)).2.2.2.1 rfl).symm
    · rw [(hD j (by omega)).2 (by omega)]
      have := (hA (j - 1) (by omega)).2.2.2.2.1 (by omega)
      rwa [show j - 1 + 1 = j by omega] at this
  · rw [List.length_cons, hl, (hD 0 (by omega)).1 rfl, (hD _ (by omega)).2 (by omega)]
    exact (hA (d + 1 - 1 - 1) (by omega)).2.2.2.2.2 (by omega)
  · rw [List.length_cons, hl] at ha hb
    have h1 := hF a (by omega)
    have h2 := hF b (by omega)
    rw [h] at h1
    have := h1.uniq h2
    by_cases ea : a = 0 <;> by_cases eb : b = 0 <;> simp only [ea, eb, if_true, if_false] at this <;> omega
theorem Cyc.inj {l : List Tr} {cs : List Nat} (h : Cyc l cs) (i j : Nat) (hi : i < cs.length) (hj : j < cs.length) (e : tn cs i = tn cs j) : i = j := h.diff i j hi hj (by rw [e])
theorem tn_at (cs : List Nat) (j : Nat) (h : j < cs.length) : tn cs j = cs[j] := by unfold tn; rw [List.getD_eq_getElem?_getD, List.getElem?_eq_getElem h]; rfl
theorem Cyc.nodup {l : List Tr} {cs : List Nat} (h : Cyc l cs) : cs.Nodup := by
  rw [List.nodup_iff_pairwise_ne, List.pairwise_iff_getElem]
  intro i j hi hj hij e
  have := h.inj i j hi hj (by rw [tn_at cs i hi, tn_at cs j hj, e])
  omega

/-- the least amount of the cycle's first k trades -/
def lst (l : List Tr) (cs : List Nat) (k : Nat) : Int := (cs.take k).foldl (fun m i => min m (gt l i).amt) 1125899906842624
theorem lst_succ (l : List Tr) (cs : List Nat) (k : Nat) (hk : k < cs.length) : lst l cs (k + 1) = min (lst l cs k) (gt l (tn cs k)).amt := by
  unfold lst
  rw [List.take_succ_eq_append_getElem hk, List.foldl_append, tn_at cs k hk]
  rfl
def tear (x : Tr) (m : Int) : Tr := ⟨x.fr, x.to_, x.con, x.amt - m⟩
/-- the trades with the first k of the cycle's ones reduced -/
def cut (l : List Tr) (cs : List Nat) (m : Int) (k : Nat) : List Tr := (List.range l.length).map fun i => if (cs.take k).contains i then tear (gt l i) m else gt l i
theorem cut_len (l : List Tr) (cs : List Nat) (m : Int) (k : Nat) : (cut l cs m k).length = l.length := by unfold cut; rw [List.length_map, List.length_range]
theorem cut_at (l : List Tr) (cs : List Nat) (m : Int) (k i : Nat) (hi : i < l.length) : gt (cut l cs m k) i = if (cs.take k).contains i then tear (gt l i) m else gt l i := by
  rw [gt_at _ i (by rw [cut_len]; exact hi)]
  unfold cut
  rw [List.getElem_map, List.getElem_range]
def torn (l : List Tr) (cs : List Nat) : List Tr := (cut l cs (lst l cs cs.length) cs.length).filter fun x => decide (0 < x.amt)
end Go.Proofs.Ytpphiohppgphnaa.Cz
