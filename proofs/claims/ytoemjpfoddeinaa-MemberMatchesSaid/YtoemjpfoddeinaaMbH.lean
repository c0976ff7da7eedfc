/-
  Member: the walk of the function that Move hands to change.
-/
import Derived.Test.YtoemjpfoddeinaaMbG
namespace Go.Proofs.Ytoemjpfoddeinaa.Mb
open Go.RowKit Go.Proofs.Ytoemjpfoddeinaa Go.Proofs.Ytoemjpfoddeinaa.Ls Go.Proofs.Ytoemjpfoddeinaa.Kb
open Go.Proofs.Ytoemjpfoddeinaa.Nm hiding ret_bool ret_int

theorem do_err2 {f : Me → Me × Int} {B g cap i : Nat} {ys : List P} {wx w' : World} {e0 : Int} (h : (f (gp ys i).1).2 = e0) (he : e0 ≠ 0) (hb : Below B wx w') (hbx : ∀ (b : Nat) (cs : Array Value), wx.heap[b]? = some (.cells cs 24 (0, 0)) → w'.heap[b]? = some (.cells cs 24 (0, 0))) : DoPost f B g cap i ys wx (.returned (.int .i64 e0)) w' :=
  ⟨by rw [h], hb, hbx, fun h0 => absurd (h.symm.trans h0) he⟩
theorem addU_len (l : List Ac) (i : Nat) (n : Int) : (addU l i n).length = l.length := List.length_set ..
theorem addU_bound {l : List Ac} {b d n : Int} (i : Nat) (hi : i < l.length) (h : ∀ y ∈ l, -b ≤ y.us ∧ y.us ≤ b) (hn : -d ≤ n ∧ n ≤ d) : ∀ y ∈ addU l i n, -(b + d) ≤ y.us ∧ y.us ≤ b + d := by
  intro y hy
  have h0 := h _ (ga_mem l i hi)
  rcases List.mem_or_eq_of_mem_set hy with hm | rfl
  · have := h y hm
    omega
  · dsimp only
    omega
/-- Used of two accounts is written, one after the other -/
theorem put_two {w : World} {B g cap i ga' : Nat} {ys : List P} (h : OwnM w B (some ⟨g, 0, none⟩) cap ys) (hi : i < ys.length) (hs : (gp ys i).2.1 = some ⟨ga', 0, none⟩) (J : Nat) (hJ : J < (gp ys i).1.ac.length) (n : Int) :
    OwnM (w.setCell ⟨ga', J * 4 + 3, none⟩ (.int .i64 ((ga (gp ys i).1.ac J).us + n))) B (some ⟨g, 0, none⟩) cap (ys.set i (wac (gp ys i).1 (addU (gp ys i).1.ac J n), (gp ys i).2)) ∧
    (∀ (b : Nat) (cs : Array Value), w.heap[b]? = some (.cells cs 24 (0, 0)) → (w.setCell ⟨ga', J * 4 + 3, none⟩ (.int .i64 ((ga (gp ys i).1.ac J).us + n))).heap[b]? = some (.cells cs 24 (0, 0))) ∧
    Below B w (w.setCell ⟨ga', J * 4 + 3, none⟩ (.int .i64 ((ga (gp ys i).1.ac J).us + n))) := put_us h hi hs J hJ _
/-- the world behind a write, and its cells -/
theorem acc_cells {w : World} {B g cap i ga' : Nat} {ys : List P} (h : OwnM w B (some ⟨g, 0, none⟩) cap ys) (hi : i < ys.length) (hs : (gp ys i).2.1 = some ⟨ga', 0, none⟩) (J : Nat) (hJ : J < (gp ys i).1.ac.length) :
    w.cell? ⟨ga', J * 4 + 3, none⟩ = some (.int .i64 (ga (gp ys i).1.ac J).us) ∧ w.frozen? ⟨ga', J * 4 + 3, none⟩ = false ∧ B ≤ ga' ∧ ga' < w.heap.size := by
  have hrow := h.rows.own _ (gp_mem ys i hi)
  unfold sl at hrow
  rw [hs] at hrow
  have h1 := (at_a' (hrow.sl acc_len).1 J hJ).2.2.2
  simp only [Nat.zero_add] at h1
  refine ⟨h1, (hrow.there _ ?_).2, (hrow.lt ga' rfl).1, (hrow.lt ga' rfl).2⟩
  obtain ⟨_, _, _, h3, _⟩ := hrow.row'
  have : (J + 1) * 4 ≤ (gp ys i).2.2 * 4 := Nat.mul_le_mul_right _ (by omega)
  omega
end Go.Proofs.Ytoemjpfoddeinaa.Mb
