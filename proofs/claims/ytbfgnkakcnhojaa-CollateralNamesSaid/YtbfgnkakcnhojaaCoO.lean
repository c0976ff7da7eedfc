/-
  Collateral: tables and holdings as the statements hand them.
-/
import Derived.Test.YtbfgnkakcnhojaaOp
import Derived.Test.YtbfgnkakcnhojaaCoM
namespace Go.Proofs.Ytbfgnkakcnhojaa.Co
open Go.RowKit Go.ChangeShapes Go.WideShapes Go.Deep Go.Proofs.Ytbfgnkakcnhojaa Go.Proofs.Ytbfgnkakcnhojaa.Ls Go.Proofs.Ytbfgnkakcnhojaa.Kb
open Go.Proofs.Ytbfgnkakcnhojaa.Nm hiding ret_bool ret_int

theorem szA_of {xs : List As} (h : ∀ x ∈ xs, x.nm.size ≤ maxLen ∧ x.iss.size ≤ maxLen) : SzA xs := fun i => by
  unfold ga
  rcases Nat.lt_or_ge i xs.length with g | g
  · rw [List.getD_eq_getElem?_getD, List.getElem?_eq_getElem g]
    exact h _ (List.getElem_mem g)
  · rw [List.getD_eq_getElem?_getD, List.getElem?_eq_none g]
    exact ⟨Nat.zero_le _, Nat.zero_le _⟩
instance : Inhabited As := ⟨a0⟩
section
variable {H : Type} {enc : TypeId × Value → H} {W : World} {spare : Nat → Bool} {held : Bool}
theorem open_is_ {fuel : Nat} {v : Value} {x : DataW H × List MemPlace} (h : DataW.trod enc Try.prog W 0 spare held fuel 23 [v] = some x) :
    ∃ (a : Option Addr) (c : Nat) (L : List (ByteArray × Int)), v = .slice a L.length c ∧ SzL L ∧ AtL W 2 isc a L := by
  obtain ⟨a, len, cap, rfl, hl, hm, hi⟩ := open_cells 2 (by decide) Try.underlying23 (by kernel_rfl) h
  have hp : ∀ i, i < len → ∃ z : ByteArray × Int, z.1.size ≤ maxLen ∧ ∃ b off, a = some ⟨b, off, none⟩ ∧ ∀ (j : Nat) (u : Value), (isc z)[j]? = some u → W.cell? ⟨b, off + i * 2 + j, none⟩ = some u := by
    intro i hil
    obtain ⟨b, off, n, cs, y, ha, hcl, hc, ht⟩ := hi i hil
    obtain ⟨c0, c1, rfl⟩ : ∃ a b, cs = [a, b] := by
      match cs, hcl with
      | [a, b], _ => exact ⟨a, b, rfl⟩
    obtain ⟨ys, n', _, _, _, hlen, hf⟩ := DataW.trod_struct Try.underlying50 ht
    have h0 : DataW.trod enc Try.prog W 0 spare held n' 9 (List.take (Try.prog.cellsOf 9) (List.drop 0 [c0, c1])) = ys[0]? := hf 0 _ rfl
    have h1 : DataW.trod enc Try.prog W 0 spare held n' 3 (List.take (Try.prog.cellsOf 3) (List.drop 1 [c0, c1])) = ys[1]? := hf 1 _ rfl
    rw [show Try.prog.cellsOf 9 = 1 from by kernel_rfl] at h0
    rw [show Try.prog.cellsOf 3 = 1 from by kernel_rfl] at h1
    simp only [List.drop_zero, List.drop_succ_cons, List.take_succ_cons, List.take_zero] at h0 h1
    have hlen : ys.length = 2 := hlen
    obtain ⟨y0, y1, rfl⟩ : ∃ a b, ys = [a, b] := by
      match ys, hlen with
      | [a, b], _ => exact ⟨a, b, rfl⟩
    obtain ⟨s, hs, _, hsz⟩ := DataW.trod_string Try.underlying9 h0
    obtain ⟨q, hq, _, _⟩ := DataW.trod_int Try.underlying3 h1
    obtain rfl : c0 = .string s := by simpa using hs
    obtain rfl : c1 = .int .i64 q := by simpa using hq
    exact ⟨(s, q), hsz, b, off, ha, hc⟩
  obtain ⟨xs, hxl, hx⟩ := pickL hp
  subst hxl
  refine ⟨a, cap, xs, rfl, szL_of fun z hz => ?_, fun i x hix => (hx i x hix).2⟩
  obtain ⟨i, hi, rfl⟩ := List.mem_iff_getElem.1 hz
  exact (hx i _ (List.getElem?_eq_getElem hi)).1
theorem open_hs {fuel : Nat} {v : Value} {x : DataW H × List MemPlace} (h : DataW.trod enc Try.prog W 0 spare held fuel 26 [v] = some x) :
    ∃ (a : Option Addr) (c : Nat) (L : List (ByteArray × Int)), v = .slice a L.length c ∧ SzL L ∧ AtL W 2 isc a L := by
  obtain ⟨a, len, cap, rfl, hl, hm, hi⟩ := open_cells 2 (by decide) Try.underlying26 (by kernel_rfl) h
  have hp : ∀ i, i < len → ∃ z : ByteArray × Int, z.1.size ≤ maxLen ∧ ∃ b off, a = some ⟨b, off, none⟩ ∧ ∀ (j : Nat) (u : Value), (isc z)[j]? = some u → W.cell? ⟨b, off + i * 2 + j, none⟩ = some u := by
    intro i hil
    obtain ⟨b, off, n, cs, y, ha, hcl, hc, ht⟩ := hi i hil
    obtain ⟨c0, c1, rfl⟩ : ∃ a b, cs = [a, b] := by
      match cs, hcl with
      | [a, b], _ => exact ⟨a, b, rfl⟩
    obtain ⟨ys, n', _, _, _, hlen, hf⟩ := DataW.trod_struct Try.underlying56 ht
    have h0 : DataW.trod enc Try.prog W 0 spare held n' 9 (List.take (Try.prog.cellsOf 9) (List.drop 0 [c0, c1])) = ys[0]? := hf 0 _ rfl
    have h1 : DataW.trod enc Try.prog W 0 spare held n' 3 (List.take (Try.prog.cellsOf 3) (List.drop 1 [c0, c1])) = ys[1]? := hf 1 _ rfl
    rw [show Try.prog.cellsOf 9 = 1 from by kernel_rfl] at h0
    rw [show Try.prog.cellsOf 3 = 1 from by kernel_rfl] at h1
    simp only [List.drop_zero, List.drop_succ_cons, List.take_succ_cons, List.take_zero] at h0 h1
    have hlen : ys.length = 2 := hlen
    obtain ⟨y0, y1, rfl⟩ : ∃ a b, ys = [a, b] := by
      match ys, hlen with
      | [a, b], _ => exact ⟨a, b, rfl⟩
    obtain ⟨s, hs, _, hsz⟩ := DataW.trod_string Try.underlying9 h0
    obtain ⟨q, hq, _, _⟩ := DataW.trod_int Try.underlying3 h1
    obtain rfl : c0 = .string s := by simpa using hs
    obtain rfl : c1 = .int .i64 q := by simpa using hq
    exact ⟨(s, q), hsz, b, off, ha, hc⟩
  obtain ⟨xs, hxl, hx⟩ := pickL hp
  subst hxl
  refine ⟨a, cap, xs, rfl, szL_of fun z hz => ?_, fun i x hix => (hx i x hix).2⟩
  obtain ⟨i, hi, rfl⟩ := List.mem_iff_getElem.1 hz
  exact (hx i _ (List.getElem?_eq_getElem hi)).1
theorem open_as {fuel : Nat} {v : Value} {x : DataW H × List MemPlace} (h : DataW.trod enc Try.prog W 0 spare held fuel 22 [v] = some x) :
    ∃ (a : Option Addr) (c : Nat) (L : List As), v = .slice a L.length c ∧ SzA L ∧ AtL W 6 asc a L := by
  obtain ⟨a, len, cap, rfl, hl, hm, hi⟩ := open_cells 6 (by decide) Try.underlying22 (by kernel_rfl) h
  have hp : ∀ i, i < len → ∃ z : As, (z.nm.size ≤ maxLen ∧ z.iss.size ≤ maxLen) ∧ ∃ b off, a = some ⟨b, off, none⟩ ∧ ∀ (j : Nat) (u : Value), (asc z)[j]? = some u → W.cell? ⟨b, off + i * 6 + j, none⟩ = some u := by
    intro i hil
    obtain ⟨b, off, n, cs, y, ha, hcl, hc, ht⟩ := hi i hil
    obtain ⟨c0, c1, c2, c3, c4, c5, rfl⟩ : ∃ c0 c1 c2 c3 c4 c5, cs = [c0, c1, c2, c3, c4, c5] := by
      match cs, hcl with
      | [c0, c1, c2, c3, c4, c5], _ => exact ⟨c0, c1, c2, c3, c4, c5, rfl⟩
    obtain ⟨ys, n', _, _, _, hlen, hf⟩ := DataW.trod_struct Try.underlying48 ht
    have h0 : DataW.trod enc Try.prog W 0 spare held n' 9 (List.take (Try.prog.cellsOf 9) (List.drop 0 [c0, c1, c2, c3, c4, c5])) = ys[0]? := hf 0 _ rfl
    rw [show Try.prog.cellsOf 9 = 1 from by kernel_rfl] at h0
    have h1 : DataW.trod enc Try.prog W 0 spare held n' 9 (List.take (Try.prog.cellsOf 9) (List.drop 1 [c0, c1, c2, c3, c4, c5])) = ys[1]? := hf 1 _ rfl
    rw [show Try.prog.cellsOf 9 = 1 from by kernel_rfl] at h1
    have h2 : DataW.trod enc Try.prog W 0 spare held n' 3 (List.take (Try.prog.cellsOf 3) (List.drop 2 [c0, c1, c2, c3, c4, c5])) = ys[2]? := hf 2 _ rfl
    rw [show Try.prog.cellsOf 3 = 1 from by kernel_rfl] at h2
    have h3 : DataW.trod enc Try.prog W 0 spare held n' 3 (List.take (Try.prog.cellsOf 3) (List.drop 3 [c0, c1, c2, c3, c4, c5])) = ys[3]? := hf 3 _ rfl
    rw [show Try.prog.cellsOf 3 = 1 from by kernel_rfl] at h3
    have h4 : DataW.trod enc Try.prog W 0 spare held n' 3 (List.take (Try.prog.cellsOf 3) (List.drop 4 [c0, c1, c2, c3, c4, c5])) = ys[4]? := hf 4 _ rfl
    rw [show Try.prog.cellsOf 3 = 1 from by kernel_rfl] at h4
    have h5 : DataW.trod enc Try.prog W 0 spare held n' 4 (List.take (Try.prog.cellsOf 4) (List.drop 5 [c0, c1, c2, c3, c4, c5])) = ys[5]? := hf 5 _ rfl
    rw [show Try.prog.cellsOf 4 = 1 from by kernel_rfl] at h5
    simp only [List.drop_zero, List.drop_succ_cons, List.take_succ_cons, List.take_zero] at h0 h1 h2 h3 h4 h5
    have hlen : ys.length = 6 := hlen
    obtain ⟨y0, y1, y2, y3, y4, y5, rfl⟩ : ∃ c0 c1 c2 c3 c4 c5, ys = [c0, c1, c2, c3, c4, c5] := by
      match ys, hlen with
      | [c0, c1, c2, c3, c4, c5], _ => exact ⟨c0, c1, c2, c3, c4, c5, rfl⟩
    obtain ⟨s0, hs0, _, hz0⟩ := DataW.trod_string Try.underlying9 h0
    obtain ⟨s1, hs1, _, hz1⟩ := DataW.trod_string Try.underlying9 h1
    obtain ⟨q2, hq2, _, _⟩ := DataW.trod_int Try.underlying3 h2
    obtain ⟨q3, hq3, _, _⟩ := DataW.trod_int Try.underlying3 h3
    obtain ⟨q4, hq4, _, _⟩ := DataW.trod_int Try.underlying3 h4
    obtain ⟨q5, hq5, _⟩ := DataW.trod_bool Try.underlying4 h5
    obtain rfl : c0 = .string s0 := by simpa using hs0
    obtain rfl : c1 = .string s1 := by simpa using hs1
    obtain rfl : c2 = .int .i64 q2 := by simpa using hq2
    obtain rfl : c3 = .int .i64 q3 := by simpa using hq3
    obtain rfl : c4 = .int .i64 q4 := by simpa using hq4
    obtain rfl : c5 = .bool q5 := by simpa using hq5
    exact ⟨⟨s0, s1, q2, q3, q4, q5⟩, ⟨hz0, hz1⟩, b, off, ha, hc⟩
  obtain ⟨xs, hxl, hx⟩ := pickL hp
  subst hxl
  refine ⟨a, cap, xs, rfl, szA_of fun z hz => ?_, fun i x hix => (hx i x hix).2⟩
  obtain ⟨i, hi, rfl⟩ := List.mem_iff_getElem.1 hz
  exact (hx i _ (List.getElem?_eq_getElem hi)).1
theorem open_tb {r : Reach} {b0 : Nat} {v : Value} {d : DataW H} {p : List MemPlace} (hv : Value.okWide Try.prog W r b0 25 v) (h : DataW.Trod enc Try.prog W 0 spare held 25 v d p) :
    ∃ (aA aI : Option Addr) (cA cI : Nat) (A : List As) (I : List (ByteArray × Int)), v = .agg #[.slice aA A.length cA, .slice aI I.length cI] ∧ SzA A ∧ SzL I ∧ AtL W 6 asc aA A ∧ AtL W 2 isc aI I := by
  obtain ⟨v0, v1, y0, y1, n, rfl, _, _, h0, h1⟩ := Go.Joins.open_agg2 Try.underlying25 (by kernel_rfl) (by kernel_rfl) hv h
  obtain ⟨aA, cA, A, rfl, hz, hA⟩ := open_as h0
  obtain ⟨aI, cI, I, rfl, hzI, hI⟩ := open_is_ h1
  exact ⟨aA, aI, cA, cI, A, I, rfl, hz, hzI, hA, hI⟩
theorem open_hl {r : Reach} {b0 : Nat} {v : Value} {d : DataW H} {p : List MemPlace} (hv : Value.okWide Try.prog W r b0 26 v) (h : DataW.Trod enc Try.prog W 0 spare held 26 v d p) :
    ∃ (a : Option Addr) (c : Nat) (L : List (ByteArray × Int)), v = .slice a L.length c ∧ SzL L ∧ AtL W 2 isc a L := by
  obtain ⟨a, len, cap, rfl⟩ := okWide_slice Try.underlying26 hv
  obtain ⟨fuel, hf⟩ := h
  exact open_hs hf
end
end Go.Proofs.Ytbfgnkakcnhojaa.Co
