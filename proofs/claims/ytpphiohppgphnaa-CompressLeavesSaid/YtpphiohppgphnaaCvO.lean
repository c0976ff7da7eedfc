/-
  Compress: trades as the statements hand them.
-/
import Derived.Test.YtpphiohppgphnaaOp
import Derived.Test.YtpphiohppgphnaaCv5
namespace Go.Proofs.Ytpphiohppgphnaa.Cs
open Go.RowKit Go.ChangeShapes Go.WideShapes Go.Deep Go.Proofs.Ytpphiohppgphnaa Go.Proofs.Ytpphiohppgphnaa.Ls Go.Proofs.Ytpphiohppgphnaa.Kb Go.Proofs.Ytpphiohppgphnaa.Cz
open Go.Proofs.Ytpphiohppgphnaa.Nm hiding ret_bool ret_int hb'

theorem szT_of {xs : List Tr} (h : ∀ x ∈ xs, x.fr.size ≤ maxLen ∧ x.to_.size ≤ maxLen ∧ x.con.size ≤ maxLen) : SzT xs := fun i => by
  rcases Nat.lt_or_ge i xs.length with g | g
  · rw [gt_at xs i g]
    exact h _ (List.getElem_mem g)
  · unfold gt
    rw [List.getD_eq_getElem?_getD, List.getElem?_eq_none g]
    exact ⟨Nat.zero_le _, Nat.zero_le _, Nat.zero_le _⟩
instance : Inhabited Tr := ⟨t0⟩
section
variable {H : Type} {enc : TypeId × Value → H} {W : World} {spare : Nat → Bool} {held : Bool}
theorem open_ts {fuel : Nat} {v : Value} {x : DataW H × List MemPlace} (h : DataW.trod enc Try.prog W 0 spare held fuel 22 [v] = some x) :
    ∃ (a : Option Addr) (c : Nat) (L : List Tr), v = .slice a L.length c ∧ (SzT L ∧ L.length ≤ maxLen) ∧ AtL W 4 trc a L := by
  obtain ⟨a, len, cap, rfl, hl, hm, hi⟩ := open_cells 4 (by decide) Try.underlying22 (by kernel_rfl) h
  have hp : ∀ i, i < len → ∃ z : Tr, (z.fr.size ≤ maxLen ∧ z.to_.size ≤ maxLen ∧ z.con.size ≤ maxLen) ∧ ∃ b off, a = some ⟨b, off, none⟩ ∧ ∀ (j : Nat) (u : Value), (trc z)[j]? = some u → W.cell? ⟨b, off + i * 4 + j, none⟩ = some u := by
    intro i hil
    obtain ⟨b, off, n, cs, y, ha, hcl, hc, ht⟩ := hi i hil
    obtain ⟨c0, c1, c2, c3, rfl⟩ : ∃ a b c d, cs = [a, b, c, d] := by
      match cs, hcl with
      | [a, b, c, d], _ => exact ⟨a, b, c, d, rfl⟩
    obtain ⟨ys, n', _, _, _, hlen, hf⟩ := DataW.trod_struct Try.underlying31 ht
    have h0 : DataW.trod enc Try.prog W 0 spare held n' 9 (List.take (Try.prog.cellsOf 9) (List.drop 0 [c0, c1, c2, c3])) = ys[0]? := hf 0 _ rfl
    have h1 : DataW.trod enc Try.prog W 0 spare held n' 9 (List.take (Try.prog.cellsOf 9) (List.drop 1 [c0, c1, c2, c3])) = ys[1]? := hf 1 _ rfl
    have h2 : DataW.trod enc Try.prog W 0 spare held n' 9 (List.take (Try.prog.cellsOf 9) (List.drop 2 [c0, c1, c2, c3])) = ys[2]? := hf 2 _ rfl
    have h3 : DataW.trod enc Try.prog W 0 spare held n' 3 (List.take (Try.prog.cellsOf 3) (List.drop 3 [c0, c1, c2, c3])) = ys[3]? := hf 3 _ rfl
    rw [show Try.prog.cellsOf 9 = 1 from by kernel_rfl] at h0 h1 h2
    rw [show Try.prog.cellsOf 3 = 1 from by kernel_rfl] at h3
    simp only [List.drop_zero, List.drop_succ_cons, List.take_succ_cons, List.take_zero] at h0 h1 h2 h3
    have hlen : ys.length = 4 := hlen
    obtain ⟨y0, y1, y2, y3, rfl⟩ : ∃ a b c d, ys = [a, b, c, d] := by
      match ys, hlen with
      | [a, b, c, d], _ => exact ⟨a, b, c, d, rfl⟩
    obtain ⟨s0, hs0, _, hz0⟩ := DataW.trod_string Try.underlying9 h0
    obtain ⟨s1, hs1, _, hz1⟩ := DataW.trod_string Try.underlying9 h1
    obtain ⟨s2, hs2, _, hz2⟩ := DataW.trod_string Try.underlying9 h2
    obtain ⟨q3, hq3, _, _⟩ := DataW.trod_int Try.underlying3 h3
    obtain rfl : c0 = .string s0 := by simpa using hs0
    obtain rfl : c1 = .string s1 := by simpa using hs1
    obtain rfl : c2 = .string s2 := by simpa using hs2
    obtain rfl : c3 = .int .i64 q3 := by simpa using hq3
    exact ⟨⟨s0, s1, s2, q3⟩, ⟨hz0, hz1, hz2⟩, b, off, ha, hc⟩
  obtain ⟨xs, hxl, hx⟩ := pickL hp
  subst hxl
  refine ⟨a, cap, xs, rfl, ⟨szT_of fun z hz => ?_, Nat.le_trans hl hm⟩, fun i x hix => (hx i x hix).2⟩
  obtain ⟨i, hi, rfl⟩ := List.mem_iff_getElem.1 hz
  exact (hx i _ (List.getElem?_eq_getElem hi)).1
theorem open_tl {r : Reach} {b0 : Nat} {v : Value} {d : DataW H} {p : List MemPlace} (hv : Value.okWide Try.prog W r b0 22 v) (h : DataW.Trod enc Try.prog W 0 spare held 22 v d p) :
    ∃ (a : Option Addr) (c : Nat) (L : List Tr), v = .slice a L.length c ∧ (SzT L ∧ L.length ≤ maxLen) ∧ AtL W 4 trc a L := by
  obtain ⟨a, len, cap, rfl⟩ := okWide_slice Try.underlying22 hv
  obtain ⟨fuel, hf⟩ := h
  exact open_ts hf
end
end Go.Proofs.Ytpphiohppgphnaa.Cs
