/-
  Margin, plain: where the greatest number stands; the same grid elsewhere in memory; what the base covers.
-/
import Derived.Test.YtmljjofpbonplaaMg10
import Derived.Test.YtmljjofpbonplaaMgJ1
namespace Go.Proofs.Ytmljjofpbonplaa.Mg
open Go.RowKit Go.Proofs.Ytmljjofpbonplaa Go.Proofs.Ytmljjofpbonplaa.Nm

theorem bestUp_ge (f : Nat → Int) (n : Nat) : ∀ i, i < n → f i ≤ (bestUp f n).2 := by
  induction n with
  | zero => intro i hi; omega
  | succ n ih =>
    intro i hi
    rw [bestUp_max]
    rcases Nat.lt_or_ge i n with g | g
    · have := ih i g; omega
    · obtain rfl : i = n := by omega
      omega
theorem bestUp_at (f : Nat → Int) (n : Nat) : ((bestUp f n).2 = 0 ∧ (bestUp f n).1 = -1) ∨ ∃ S : Nat, S < n ∧ (bestUp f n).1 = S ∧ f S = (bestUp f n).2 ∧ 0 < (bestUp f n).2 ∧ ∀ i, i < S → f i < (bestUp f n).2 := by
  induction n with
  | zero => exact .inl ⟨rfl, rfl⟩
  | succ n ih =>
    have h0 := bestUp_nonneg f n
    have hg := bestUp_ge f n
    by_cases h : (bestUp f n).2 < f n
    · have e : bestUp f (n + 1) = ((n : Int), f n) := by rw [bestUp, if_pos h]
      rw [e]
      exact .inr ⟨n, by omega, rfl, rfl, by show 0 < f n; omega, fun i hi => by have := hg i hi; show f i < f n; omega⟩
    · have e : bestUp f (n + 1) = bestUp f n := by rw [bestUp, if_neg h]
      rw [e]
      rcases ih with ih | ⟨S, h1, h2⟩
      · exact .inl ih
      · exact .inr ⟨S, by omega, h2⟩

/-- the same grid elsewhere: other headers, the same contents -/
def Gr.moved (g : Gr) (wa : Option Addr) (wc : Nat) (pa : Option Addr) (pc : Nat) (A : Nat → Option Addr) (C : Nat → Nat) : Gr :=
  ⟨wa, g.nw, wc, pa, g.np, pc, g.W, fun i => ⟨(g.P i).nm, A i, (g.P i).len, C i, (g.P i).mv, (g.P i).fee⟩⟩
theorem moved_loss (g : Gr) (wa : Option Addr) (wc : Nat) (pa : Option Addr) (pc : Nat) (A : Nat → Option Addr) (C : Nat → Nat) (T : Nat → ByteArray) (Q : Nat → Int) (k s : Nat) :
    lossUp (g.moved wa wc pa pc A C).P g.np T Q k s = lossUp g.P g.np T Q k s := by
  induction k with
  | zero => rfl
  | succ k ih => rw [lossUp, lossUp, ih]; rfl
theorem moved_add (g : Gr) (wa : Option Addr) (wc : Nat) (pa : Option Addr) (pc : Nat) (A : Nat → Option Addr) (C : Nat → Nat) (T : Nat → ByteArray) (Q : Nat → Int) (k : Nat) :
    addUp (g.moved wa wc pa pc A C).P g.np T Q k = addUp g.P g.np T Q k := by
  induction k with
  | zero => rfl
  | succ k ih => rw [addUp, addUp, ih]; rfl
theorem moved_grid (g : Gr) (wa : Option Addr) (wc : Nat) (pa : Option Addr) (pc : Nat) (A : Nat → Option Addr) (C : Nat → Nat) :
    gridB g.W g.nw (g.moved wa wc pa pc A C).P g.np = gridB g.W g.nw g.P g.np := rfl
/-- a portfolio with the same contents -/
def Pf.moved (l : Pf) (a : Option Addr) (c : Nat) : Pf := ⟨a, l.n, c, l.T, l.Q⟩
theorem moved_fit (g : Gr) (l : Pf) (wa : Option Addr) (wc : Nat) (pa : Option Addr) (pc : Nat) (A : Nat → Option Addr) (C : Nat → Nat) (a : Option Addr) (c : Nat) :
    fit (g.moved wa wc pa pc A C) (l.moved a c) = fit g l := rfl
theorem moved_best (g : Gr) (l : Pf) (wa : Option Addr) (wc : Nat) (pa : Option Addr) (pc : Nat) (A : Nat → Option Addr) (C : Nat → Nat) (a : Option Addr) (c : Nat) :
    best (g.moved wa wc pa pc A C) (l.moved a c) = best g l := by
  unfold best
  congr 1
  funext s
  unfold loss
  rw [show (g.moved wa wc pa pc A C).np = g.np from rfl, moved_loss]
  rfl
theorem moved_wBase (g : Gr) (l : Pf) (wa : Option Addr) (wc : Nat) (pa : Option Addr) (pc : Nat) (A : Nat → Option Addr) (C : Nat → Nat) (a : Option Addr) (c : Nat) :
    wBase (g.moved wa wc pa pc A C) (l.moved a c) = wBase g l := by
  unfold wBase
  rw [moved_fit, moved_best]
theorem moved_wAt (g : Gr) (l : Pf) (wa : Option Addr) (wc : Nat) (pa : Option Addr) (pc : Nat) (A : Nat → Option Addr) (C : Nat → Nat) (a : Option Addr) (c : Nat) :
    wAt (g.moved wa wc pa pc A C) (l.moved a c) = wAt g l := by
  unfold wAt
  rw [moved_fit, moved_best]
theorem moved_lossV (g : Gr) (l : Pf) (wa : Option Addr) (wc : Nat) (pa : Option Addr) (pc : Nat) (A : Nat → Option Addr) (C : Nat → Nat) (a : Option Addr) (c : Nat) (s : Int) :
    lossV (g.moved wa wc pa pc A C) (l.moved a c) s = lossV g l s ∧ lossE (g.moved wa wc pa pc A C) (l.moved a c) s = lossE g l s := by
  unfold lossV lossE loss
  rw [moved_fit, show (g.moved wa wc pa pc A C).np = g.np from rfl, show (g.moved wa wc pa pc A C).nw = g.nw from rfl, moved_loss]
  exact ⟨rfl, rfl⟩
theorem moved_addV (g : Gr) (l : Pf) (wa : Option Addr) (wc : Nat) (pa : Option Addr) (pc : Nat) (A : Nat → Option Addr) (C : Nat → Nat) (a : Option Addr) (c : Nat) :
    addV (g.moved wa wc pa pc A C) (l.moved a c) = addV g l := by
  unfold addV
  rw [moved_fit, show (g.moved wa wc pa pc A C).np = g.np from rfl, moved_add]
  rfl
theorem moved_margV (g : Gr) (l : Pf) (wa : Option Addr) (wc : Nat) (pa : Option Addr) (pc : Nat) (A : Nat → Option Addr) (C : Nat → Nat) (a : Option Addr) (c : Nat) :
    margV (g.moved wa wc pa pc A C) (l.moved a c) = margV g l := by
  unfold margV
  rw [moved_wBase, moved_addV]

/-- what counts, times 1000, is at least the loss times the weight; and less by one it is not -/
theorem cnt_cover (x y : Int) (hy : 0 < y) : x * y ≤ cnt x y * 1000 ∧ (0 < cnt x y → (cnt x y - 1) * 1000 < x * y) := by
  unfold cnt
  by_cases h : x ≤ 0
  · have := Int.mul_nonpos_of_nonpos_of_nonneg h (Int.le_of_lt hy)
    rw [if_pos h]
    omega
  · rw [if_neg h]
    generalize x * y = z
    omega
end Go.Proofs.Ytmljjofpbonplaa.Mg
