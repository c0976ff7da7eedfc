/-
  Margin, plain: a part of a grid's scenarios.
-/
import Derived.Test.YtmljjofpbonplaaMg30
namespace Go.Proofs.Ytmljjofpbonplaa.Mg
open Go.RowKit Go.Proofs.Ytmljjofpbonplaa Go.Proofs.Ytmljjofpbonplaa.Nm Go.Proofs.Ytmljjofpbonplaa.Ls

/-- the grid of the scenarios from .. to -/
def Gr.part (g : Gr) (wa : Option Addr) (wc : Nat) (pa : Option Addr) (pc : Nat) (A : Nat → Option Addr) (C : Nat → Nat) (f t : Nat) : Gr :=
  ⟨wa, t - f, wc, pa, g.np, pc, fun i => g.W (f + i), fun i => ⟨(g.P i).nm, A i, t - f, C i, fun k => (g.P i).mv (f + k), (g.P i).fee⟩⟩
section
variable {g : Gr} {l : Pf} (h : fit g l = true) (wa : Option Addr) (wc : Nat) (pa : Option Addr) (pc : Nat) (A : Nat → Option Addr) (C : Nat → Nat) (f t : Nat)
include h
theorem part_fit (hft : f < t) (ht : t ≤ g.nw) : fit (g.part wa wc pa pc A C f t) l = true := by
  have k := fit_ok h
  have hw := k.g.w50
  refine fitB_of ⟨⟨by show 1 ≤ t - f; omega, by show t - f ≤ 50; omega, k.g.p32, fun i hi => ?_, k.g.name, k.g.sorted, fun i _ => rfl, fun i hi s hs => ?_, k.g.fee⟩, k.p, k.has⟩
  · have hi2 : i < t - f := hi
    exact k.g.ws (f + i) (by omega)
  · have hs2 : s < t - f := hs
    exact k.g.mv i hi (f + s) (by omega)
omit h in
theorem part_loss (k s : Nat) : lossUp (g.part wa wc pa pc A C f t).P g.np l.T l.Q k s = lossUp g.P g.np l.T l.Q k (f + s) := by
  induction k with
  | zero => rfl
  | succ k ih => rw [lossUp, lossUp, ih]; rfl
omit h in
theorem part_ct (s : Nat) : ctD (g.part wa wc pa pc A C f t) l s = ctD g l (f + s) := by
  unfold ctD loss
  rw [show (g.part wa wc pa pc A C f t).np = g.np from rfl, part_loss]
  rfl
theorem part_base (hft : f < t) (ht : t ≤ g.nw) : wBase (g.part wa wc pa pc A C f t) l = (bestUp (fun s => ctD g l (f + s)) (t - f)).2 := by
  have hp := part_fit h wa wc pa pc A C f t hft ht
  have e : ctD (g.part wa wc pa pc A C f t) l = fun s => ctD g l (f + s) := funext fun s => part_ct wa wc pa pc A C f t s
  unfold wBase
  rw [if_pos hp, best_doc hp, e]
  rfl
/-- a part has no greater base -/
theorem part_le (hft : f < t) (ht : t ≤ g.nw) : wBase (g.part wa wc pa pc A C f t) l ≤ wBase g l := by
  have hB := (wBase_bd g l).1
  rw [part_base h wa wc pa pc A C f t hft ht]
  refine bestUp_le _ _ _ hB (fun i hi => ?_)
  have e : wBase g l = (bestUp (ctD g l) g.nw).2 := by unfold wBase; rw [if_pos h, best_doc h]
  rw [e]
  exact bestUp_ge (ctD g l) g.nw (f + i) (by omega)
/-- where the worst scenario stands -/
theorem worst_at : (wBase g l = 0 ∧ wAt g l = -1) ∨ ∃ S : Nat, S < g.nw ∧ wAt g l = S ∧ 0 < wBase g l ∧ ctD g l S = wBase g l := by
  have e : wBase g l = (bestUp (ctD g l) g.nw).2 := by unfold wBase; rw [if_pos h, best_doc h]
  have e2 : wAt g l = (bestUp (ctD g l) g.nw).1 := by unfold wAt; rw [if_pos h, best_doc h]
  rw [e, e2]
  rcases bestUp_at (ctD g l) g.nw with k | ⟨S, h1, h2, h3, h4, _⟩
  · exact .inl k
  · exact .inr ⟨S, h1, h2, h4, h3⟩
/-- the worst scenario alone has the whole base -/
theorem part_one {S : Nat} (hS : S < g.nw) (h0 : 0 < wBase g l) (h1 : ctD g l S = wBase g l) : wBase (g.part wa wc pa pc A C S (S + 1)) l = wBase g l := by
  have k1 := part_le h wa wc pa pc A C S (S + 1) (by omega) (by omega)
  have k2 := part_base h wa wc pa pc A C S (S + 1) (by omega) (by omega)
  have k3 : ctD g l S ≤ (bestUp (fun s => ctD g l (S + s)) (S + 1 - S)).2 := bestUp_ge (fun s => ctD g l (S + s)) (S + 1 - S) 0 (by omega)
  omega
end
end Go.Proofs.Ytmljjofpbonplaa.Mg
