/-
  Compress, plain: contract by contract; which trades may stay.
-/
import Derived.Test.YtpphiohppgphnaaCvI
namespace Go.Proofs.Ytpphiohppgphnaa.Cs
open Go.RowKit Go.Proofs.Ytpphiohppgphnaa Go.Proofs.Ytpphiohppgphnaa.Ls Go.Proofs.Ytpphiohppgphnaa.Kb Go.Proofs.Ytpphiohppgphnaa.Cz
open Go.Proofs.Ytpphiohppgphnaa.Nm hiding ret_bool ret_int hb'

theorem vld_sub {a l : List Tr} (h : a.Sublist l) (hv : vldB l = true) : vldB a = true := by
  have := (vld_iff l).1 hv
  exact (vld_iff a).2 ⟨fun x hx => this.1 x (h.subset hx), this.2.sublist h⟩
theorem con_mono {l : List Tr} (hv : vldB l = true) {a b : Nat} (hab : a ≤ b) (hb : b < l.length) : (gt l a).con = (gt l b).con ∨ lt (gt l a).con (gt l b).con = true := by
  rcases Nat.eq_or_lt_of_le hab with e | e
  · subst e
    exact .inl rfl
  · have hp := List.pairwise_iff_getElem.1 ((vld_iff l).1 hv).2 a b (by omega) hb e
    rw [getElem_gt, getElem_gt, bef_lt] at hp
    rcases hp with h | ⟨h, _⟩
    · exact .inr h
    · exact .inl h
theorem con_apart {l : List Tr} (hv : vldB l = true) {a i b : Nat} (hai : a ≤ i) (hib : i + 1 ≤ b) (hb : b < l.length) (hne : (gt l (i + 1)).con ≠ (gt l i).con) : (gt l a).con ≠ (gt l b).con := by
  have h1 := con_mono hv hai (by omega)
  have h2 := (con_mono hv (show i ≤ i + 1 by omega) (by omega)).resolve_left (fun e => hne e.symm)
  have h3 := con_mono hv hib hb
  intro e
  have h4 : lt (gt l i).con (gt l b).con = true := by
    rcases h3 with h3 | h3
    · rw [← h3]; exact h2
    · exact lt_trans h2 h3
  have h5 : lt (gt l a).con (gt l b).con = true := by
    rcases h1 with h1 | h1
    · rw [h1]; exact h4
    · exact lt_trans h1 h4
  rw [e, lt_irrefl] at h5
  cases h5
/-- behind the trades up to the i-th: those from the F-th on are not compressed yet -/
structure LvI (l : List Tr) (i F : Nat) (ap : List Tr) : Prop where
  fi : F ≤ i
  il : i ≤ l.length
  con : i < l.length → ∀ j, F ≤ j → j < i → (gt l j).con = (gt l i).con
  fin : i = l.length → F = l.length
  apart : Apart (l.take F) (l.drop F)
  cmp : Cmp (l.take F) ap
theorem LvI.start (l : List Tr) : LvI l 0 0 [] := ⟨Nat.le_refl _, Nat.zero_le _, fun _ j _ h => by omega, fun h => h, fun x hx => by simp at hx, .stop [] (.none fun i hi => by simp at hi)⟩
theorem LvI.same {l : List Tr} {i F : Nat} {ap : List Tr} (h : LvI l i F ap) (hi : i + 1 < l.length) (hc : (gt l (i + 1)).con = (gt l i).con) : LvI l (i + 1) F ap := by
  refine ⟨Nat.le_succ_of_le h.fi, by omega, fun _ j h1 h2 => ?_, fun e => by omega, h.apart, h.cmp⟩
  rw [hc]
  rcases Nat.eq_or_lt_of_le (show j ≤ i by omega) with e | e
  · rw [e]
  · exact h.con (by omega) j h1 e
/-- the trades of the contract that ends at i -/
def blk (l : List Tr) (F i : Nat) : List Tr := (l.take (i + 1)).drop F
theorem blk_len (l : List Tr) (F i : Nat) (hi : i < l.length) : (blk l F i).length = i + 1 - F := by unfold blk; rw [List.length_drop, List.length_take]; omega
theorem blk_sub (l : List Tr) (F i : Nat) : (blk l F i).Sublist l := (List.drop_sublist _ _).trans (List.take_sublist _ _)
theorem LvI.block {l : List Tr} (hv : vldB l = true) {i F : Nat} {ap part : List Tr} (h : LvI l i F ap) (hi : i < l.length) (he : i + 1 = l.length ∨ (gt l (i + 1)).con ≠ (gt l i).con) (hp : Cmp (blk l F i) part) : LvI l (i + 1) (i + 1) (ap ++ part) := by
  have hfi := h.fi
  have e : l.take (i + 1) = l.take F ++ blk l F i := by
    unfold blk
    have := List.take_append_drop F (l.take (i + 1))
    rw [List.take_take, Nat.min_eq_left (by omega)] at this
    exact this.symm
  refine ⟨Nat.le_refl _, hi, fun _ j h1 h2 => by omega, fun e => e, fun x hx y hy => ?_, ?_⟩
  · obtain ⟨a, ha, rfl⟩ := List.mem_iff_getElem.1 hx
    obtain ⟨b, hb, rfl⟩ := List.mem_iff_getElem.1 hy
    rw [List.length_take] at ha
    rw [List.length_drop] at hb
    rw [List.getElem_take, List.getElem_drop, getElem_gt, getElem_gt]
    exact con_apart hv (i := i) (by omega) (by omega) (by omega) (he.resolve_left (by omega))
  · rw [e]
    refine cmp_append h.cmp (vld_sub (List.take_sublist _ _) hv) (vld_sub (blk_sub l F i) hv) (fun x hx y hy => h.apart x hx y ?_) hp
    unfold blk at hy
    rw [List.drop_take] at hy
    exact List.mem_of_mem_take hy
theorem LvI.done {l : List Tr} {F : Nat} {ap out : List Tr} (h : LvI l l.length F ap) (hc : Cmp l out) : ap = out := by
  have := h.fin rfl
  subst this
  have h2 := h.cmp
  rw [List.take_length] at h2
  exact cmp_uniq h2 hc
theorem LvI.len {l : List Tr} (hv : vldB l = true) {i F : Nat} {ap : List Tr} (h : LvI l i F ap) : ap.length ≤ l.length := by
  have := (cmp_facts h.cmp (vld_sub (List.take_sublist _ _) hv)).2.1
  rw [List.length_take] at this
  omega
/-- does anyone owe to, or is owed by, the trade's parties? is the trade among some? -/
def rcv (x : Tr) (l : List Tr) : Bool := l.any fun y => decide (y.con = x.con) && decide (y.to_ = x.fr)
def pay (x : Tr) (l : List Tr) : Bool := l.any fun y => decide (y.con = x.con) && decide (y.fr = x.to_)
def thr (x : Tr) (l : List Tr) : Prop := x ∈ l
theorem any_take (f : Tr → Bool) (l : List Tr) (K : Nat) (hK : K < l.length) : (l.take (K + 1)).any f = ((l.take K).any f || f (gt l K)) := by
  rw [List.take_succ_eq_append_getElem hK, List.any_append, getElem_gt]
  simp
theorem off_of {l : List Tr} {x : Tr} (h : rcv x l = false ∨ pay x l = false) : Off l x := by
  rcases h with h | h
  · refine .inl fun y hy hc ht => ?_
    unfold rcv at h
    rw [List.any_eq_false] at h
    exact h y hy (by rw [decide_eq_true hc, decide_eq_true ht]; rfl)
  · refine .inr fun y hy hc ht => ?_
    unfold pay at h
    rw [List.any_eq_false] at h
    exact h y hy (by rw [decide_eq_true hc, decide_eq_true ht]; rfl)
end Go.Proofs.Ytpphiohppgphnaa.Cs
