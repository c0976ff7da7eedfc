/-
  Compress, plain: first cycles of trades that are written out, by reckoning.
-/
import Derived.Test.YtpphiohppgphnaaCz4
namespace Go.Proofs.Ytpphiohppgphnaa.Cz

def eqB (a b : ByteArray) : Bool := decide (a = b)
section
variable (l : List Tr) (c T : ByteArray)
def outB (p : ByteArray) (k : Nat) : Bool := decide (k < l.length) && eqB (gt l k).con c && eqB (gt l k).fr p
def rchB : Nat → ByteArray → Bool
  | 0, p => eqB p T
  | n + 1, p => (List.range l.length).any fun k => outB l c p k && rchB n (gt l k).to_
def dstB (p : ByteArray) (d : Nat) : Bool := rchB l c T d p && (List.range d).all fun n => !rchB l c T n p
def grdB : ByteArray → List Nat → Bool
  | p, [] => eqB p T
  | p, k :: tr => outB l c p k && dstB l c T (gt l k).to_ tr.length && ((List.range k).all fun j => !(outB l c p j && rchB l c T tr.length (gt l j).to_)) && grdB (gt l k).to_ tr
end
section
variable {l : List Tr} {c T : ByteArray}
theorem eqB_iff {a b : ByteArray} : eqB a b = true ↔ a = b := decide_eq_true_iff
theorem outB_iff {p : ByteArray} {k : Nat} : outB l c p k = true ↔ Out l c p k := by
  unfold outB Out
  rw [Bool.and_eq_true, Bool.and_eq_true, decide_eq_true_iff, eqB_iff, eqB_iff]
  exact and_assoc
theorem rchB_iff {n : Nat} : ∀ {p : ByteArray}, rchB l c T n p = true ↔ Rch l c T n p := by
  induction n with
  | zero => intro p; exact eqB_iff
  | succ n ih =>
    intro p
    show ((List.range l.length).any fun k => outB l c p k && rchB l c T n (gt l k).to_) = true ↔ _
    rw [List.any_eq_true]
    constructor
    · rintro ⟨k, _, h⟩
      rw [Bool.and_eq_true] at h
      exact ⟨k, outB_iff.1 h.1, ih.1 h.2⟩
    · rintro ⟨k, h1, h2⟩
      exact ⟨k, List.mem_range.2 h1.1, by rw [Bool.and_eq_true]; exact ⟨outB_iff.2 h1, ih.2 h2⟩⟩
theorem dstB_dist {p : ByteArray} {d : Nat} (h : dstB l c T p d = true) : Dist l c T p d := by
  unfold dstB at h
  rw [Bool.and_eq_true, List.all_eq_true] at h
  refine ⟨rchB_iff.1 h.1, fun n hn => ?_⟩
  rcases Nat.lt_or_ge n d with g | g
  · have := h.2 n (List.mem_range.2 g)
    rw [rchB_iff.2 hn] at this
    cases this
  · exact g
theorem grdB_grd {tr : List Nat} : ∀ {p : ByteArray}, grdB l c T p tr = true → Grd l c T p tr.length tr := by
  induction tr with
  | nil =>
    intro p h
    obtain rfl := eqB_iff.1 h
    exact .nil
  | cons k tr ih =>
    intro p h
    have h : (outB l c p k && dstB l c T (gt l k).to_ tr.length && ((List.range k).all fun j => !(outB l c p j && rchB l c T tr.length (gt l j).to_)) && grdB l c T (gt l k).to_ tr) = true := h
    rw [Bool.and_eq_true, Bool.and_eq_true, Bool.and_eq_true, List.all_eq_true] at h
    obtain ⟨⟨⟨h1, h2⟩, h3⟩, h4⟩ := h
    refine .cons p tr.length k tr (outB_iff.1 h1) (dstB_dist h2) (fun j hj ho hr => ?_) (ih h4)
    have := h3 j (List.mem_range.2 hj)
    rw [outB_iff.2 ho, rchB_iff.2 hr] at this
    cases this
end
/-- parties that are closed under the contract's trades -/
def closedB (l : List Tr) (c : ByteArray) (S : List ByteArray) : Bool := (List.range l.length).all fun k => !(eqB (gt l k).con c && inS S (gt l k).fr) || inS S (gt l k).to_
theorem closed_no {l : List Tr} {c T : ByteArray} {S : List ByteArray} (h : closedB l c S = true) (hT : inS S T = false) : ∀ n p, inS S p = true → ¬ Rch l c T n p := by
  intro n
  induction n with
  | zero =>
    intro p hp hr
    have hr : p = T := hr
    rw [hr, hT] at hp
    cases hp
  | succ n ih =>
    rintro p hp ⟨k, ⟨hk, hc, hf⟩, hr⟩
    refine ih _ ?_ hr
    unfold closedB at h
    rw [List.all_eq_true] at h
    have := h k (List.mem_range.2 hk)
    rw [hf, hp, eqB_iff.2 hc] at this
    simpa using this
def stepC (l : List Tr) (c : ByteArray) (S : List ByteArray) : List ByteArray := (List.range l.length).foldl (fun S k => if eqB (gt l k).con c && inS S (gt l k).fr && !inS S (gt l k).to_ then S ++ [(gt l k).to_] else S) S
def cloC (l : List Tr) (c : ByteArray) (p : ByteArray) : List ByteArray := (List.range l.length).foldl (fun S _ => stepC l c S) [p]
/-- no way back from a trade -/
def noB (l : List Tr) (i : Nat) : Bool := closedB l (gt l i).con (cloC l (gt l i).con (gt l i).to_) && inS (cloC l (gt l i).con (gt l i).to_) (gt l i).to_ && !inS (cloC l (gt l i).con (gt l i).to_) (gt l i).fr
theorem noB_no {l : List Tr} {i : Nat} (h : noB l i = true) : ∀ n, ¬ Rch l (gt l i).con (gt l i).fr n (gt l i).to_ := fun n => by
  unfold noB at h
  rw [Bool.and_eq_true, Bool.and_eq_true, Bool.not_eq_true'] at h
  exact closed_no h.1.1 h.2 n _ h.1.2
def firstB (l : List Tr) : List Nat → Bool
  | [] => (List.range l.length).all fun i => noB l i
  | i :: tr => decide (i < l.length) && dstB l (gt l i).con (gt l i).fr (gt l i).to_ tr.length && grdB l (gt l i).con (gt l i).fr (gt l i).to_ tr && (List.range i).all fun j => noB l j
theorem firstB_first {l : List Tr} {r : List Nat} (h : firstB l r = true) : First l r := by
  cases r with
  | nil =>
    have h : ((List.range l.length).all fun i => noB l i) = true := h
    rw [List.all_eq_true] at h
    exact .none fun i hi => noB_no (h i (List.mem_range.2 hi))
  | cons i tr =>
    have h : (decide (i < l.length) && dstB l (gt l i).con (gt l i).fr (gt l i).to_ tr.length && grdB l (gt l i).con (gt l i).fr (gt l i).to_ tr && (List.range i).all fun j => noB l j) = true := h
    rw [Bool.and_eq_true, Bool.and_eq_true, Bool.and_eq_true, decide_eq_true_iff, List.all_eq_true] at h
    obtain ⟨⟨⟨h1, h2⟩, h3⟩, h4⟩ := h
    exact .some i tr.length tr h1 (dstB_dist h2) (grdB_grd h3) fun j hj => noB_no (h4 j (List.mem_range.2 hj))
end Go.Proofs.Ytpphiohppgphnaa.Cz
