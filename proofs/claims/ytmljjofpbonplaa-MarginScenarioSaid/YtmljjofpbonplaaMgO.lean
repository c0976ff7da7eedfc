/-
  Margin: grids and portfolios as the statements hand them.
-/
import Derived.Test.YtmljjofpbonplaaOp
import Derived.Test.YtmljjofpbonplaaMgP
namespace Go.Proofs.Ytmljjofpbonplaa.Mg
open Go.RowKit Go.ChangeShapes Go.WideShapes Go.Deep Go.Proofs.Ytmljjofpbonplaa Go.Proofs.Ytmljjofpbonplaa.Nm Go.Proofs.Ytmljjofpbonplaa.Ls

/-- a position's cells -/
def pc (z : ByteArray × Int) : List Value := [.string z.1, .int .i64 z.2]
theorem pc_len (z : ByteArray × Int) : (pc z).length = 2 := rfl
def i64R (q : Int) : Prop := -9223372036854775808 ≤ q ∧ q ≤ 9223372036854775807
/-- a portfolio's list: no longer than slices are, strings no longer than strings are, numbers in range -/
structure PLok (xs : PL) : Prop where
  n : xs.length ≤ maxLen
  s : ∀ z ∈ xs, z.1.size ≤ maxLen
  q : ∀ z ∈ xs, i64R z.2
/-- a list as a portfolio -/
def pfl (a : Option Addr) (c : Nat) (xs : PL) : Pf := ⟨a, xs.length, c, fun i => (xs.getD i (⟨#[]⟩, 0)).1, fun i => (xs.getD i (⟨#[]⟩, 0)).2⟩
theorem getD_mem {α : Type} (xs : List α) (d : α) (i : Nat) : xs.getD i d ∈ xs ∨ xs.getD i d = d := by
  rw [List.getD_eq_getElem?_getD]
  cases h : xs[i]? with
  | none => exact .inr rfl
  | some x => exact .inl (List.mem_of_getElem? h)
theorem pfl_at {w : World} {a : Option Addr} {c : Nat} {xs : PL} (h : PLok xs) (hA : AtL w 2 pc a xs) : PfAt w (pfl a c xs) := by
  refine ⟨h.n, fun i => ?_, fun i hi => ?_⟩
  · show (xs.getD i (⟨#[]⟩, 0)).1.size ≤ maxLen
    rcases getD_mem xs (⟨#[]⟩, 0) i with k | k
    · exact h.s _ k
    · rw [k]; exact Nat.zero_le _
  · have hi' : i < xs.length := hi
    obtain ⟨b, off, ha, hc⟩ := hA i xs[i] (List.getElem?_eq_getElem hi')
    have e : xs.getD i (⟨#[]⟩, 0) = xs[i] := by rw [List.getD_eq_getElem?_getD, List.getElem?_eq_getElem hi']; rfl
    refine ⟨b, off, ha, ?_, ?_⟩
    · show _ = some (Value.string (xs.getD i (⟨#[]⟩, 0)).1)
      rw [e]
      exact hc 0 _ rfl
    · show _ = some (Value.int .i64 (xs.getD i (⟨#[]⟩, 0)).2)
      rw [e]
      exact hc 1 _ rfl

theorem wf64 {q : Int} (h : (Lit.int .i64 q).wf = true) : i64R q := by
  have h2 : IntKind.i64.min ≤ q ∧ q ≤ IntKind.i64.max := by simpa [Lit.wf] using h
  exact h2
section
variable {H : Type} {enc : TypeId × Value → H} {W : World} {spare : Nat → Bool} {held : Bool}
theorem two_cells {cs : List Value} (h : cs.length = 2) : ∃ a b, cs = [a, b] := by
  match cs, h with
  | [a, b], _ => exact ⟨a, b, rfl⟩
theorem three_cells {cs : List Value} (h : cs.length = 3) : ∃ a b c, cs = [a, b, c] := by
  match cs, h with
  | [a, b, c], _ => exact ⟨a, b, c, rfl⟩
theorem open_pl {fuel : Nat} {v : Value} {x : DataW H × List MemPlace} (h : DataW.trod enc Try.prog W 0 spare held fuel 26 [v] = some x) :
    ∃ (a : Option Addr) (c : Nat) (xs : PL), v = .slice a xs.length c ∧ PLok xs ∧ AtL W 2 pc a xs ∧ xs.length ≤ c := by
  obtain ⟨a, len, cap, rfl, hl, hm, hi⟩ := open_cells 2 (by decide) Try.underlying26 (by kernel_rfl) h
  have hp : ∀ i, i < len → ∃ z : ByteArray × Int, z.1.size ≤ maxLen ∧ i64R z.2 ∧ ∃ b off, a = some ⟨b, off, none⟩ ∧ ∀ (j : Nat) (u : Value), (pc z)[j]? = some u → W.cell? ⟨b, off + i * 2 + j, none⟩ = some u := by
    intro i hil
    obtain ⟨b, off, n, cs, y, ha, hcl, hc, ht⟩ := hi i hil
    obtain ⟨c0, c1, rfl⟩ := two_cells hcl
    obtain ⟨ys, n', _, _, _, hlen, hf⟩ := DataW.trod_struct Try.underlying51 ht
    have h0 : DataW.trod enc Try.prog W 0 spare held n' 9 (List.take (Try.prog.cellsOf 9) (List.drop 0 [c0, c1])) = ys[0]? := hf 0 _ rfl
    have h1 : DataW.trod enc Try.prog W 0 spare held n' 3 (List.take (Try.prog.cellsOf 3) (List.drop 1 [c0, c1])) = ys[1]? := hf 1 _ rfl
    rw [show Try.prog.cellsOf 9 = 1 from by kernel_rfl] at h0
    rw [show Try.prog.cellsOf 3 = 1 from by kernel_rfl] at h1
    simp only [List.drop_zero, List.drop_succ_cons, List.take_succ_cons, List.take_zero] at h0 h1
    have hlen : ys.length = 2 := hlen
    obtain ⟨y0, y1, rfl⟩ : ∃ a b, ys = [a, b] := by
      match ys, hlen with
      | [a, b], _ => exact ⟨a, b, rfl⟩
    obtain ⟨s, hs, _, hsz⟩ := DataW.trod_string Try.underlying9 h0
    obtain ⟨q, hq, _, hwf⟩ := DataW.trod_int Try.underlying3 h1
    obtain rfl : c0 = .string s := by simpa using hs
    obtain rfl : c1 = .int .i64 q := by simpa using hq
    exact ⟨(s, q), hsz, wf64 hwf, b, off, ha, hc⟩
  obtain ⟨xs, hxl, hx⟩ := pickL hp
  subst hxl
  refine ⟨a, cap, xs, rfl, ⟨by omega, fun z hz => ?_, fun z hz => ?_⟩, fun i x hix => (hx i x hix).2.2, hl⟩
  · obtain ⟨i, hi, rfl⟩ := List.mem_iff_getElem.1 hz
    exact (hx i _ (List.getElem?_eq_getElem hi)).1
  · obtain ⟨i, hi, rfl⟩ := List.mem_iff_getElem.1 hz
    exact (hx i _ (List.getElem?_eq_getElem hi)).2.1

theorem open_is {fuel : Nat} {v : Value} {x : DataW H × List MemPlace} (h : DataW.trod enc Try.prog W 0 spare held fuel 22 [v] = some x) :
    ∃ (a : Option Addr) (n c : Nat) (f : Nat → Int), v = .slice a n c ∧ n ≤ maxLen ∧ n ≤ c ∧ c ≤ maxLen ∧ IntsAt W a n f ∧ ∀ i, i64R (f i) := by
  obtain ⟨a, len, cap, rfl, hl, hm, hi⟩ := open_cells 1 (by decide) Try.underlying22 (by kernel_rfl) h
  have hp : ∀ i, i < len → ∃ z : Int, i64R z ∧ ∃ b off, a = some ⟨b, off, none⟩ ∧ W.cell? ⟨b, off + i, none⟩ = some (.int .i64 z) := by
    intro i hil
    obtain ⟨b, off, n, cs, y, ha, hcl, hc, ht⟩ := hi i hil
    obtain ⟨q, hq, _, hwf⟩ := DataW.trod_int Try.underlying3 ht
    subst hq
    have := hc 0 _ rfl
    rw [Nat.mul_one] at this
    exact ⟨q, wf64 hwf, b, off, ha, this⟩
  obtain ⟨f, hf, hd⟩ := pickD hp
  refine ⟨a, len, cap, f, rfl, by omega, hl, hm, fun i hi => (hf i hi).2, fun i => ?_⟩
  rcases Nat.lt_or_ge i len with g | g
  · exact (hf i g).1
  · rw [hd i g]
    show i64R 0
    unfold i64R
    omega
instance : Inhabited PD := ⟨⟨⟨#[]⟩, none, 0, 0, fun _ => 0, 0⟩⟩
theorem open_ps {fuel : Nat} {v : Value} {x : DataW H × List MemPlace} (h : DataW.trod enc Try.prog W 0 spare held fuel 23 [v] = some x) :
    ∃ (a : Option Addr) (n c : Nat) (P : Nat → PD), v = .slice a n c ∧ n ≤ maxLen ∧ ProdsAt W a n P ∧ PDok P := by
  obtain ⟨a, len, cap, rfl, hl, hm, hi⟩ := open_cells 3 (by decide) Try.underlying23 (by kernel_rfl) h
  have hp : ∀ i, i < len → ∃ z : PD, z.nm.size ≤ maxLen ∧ z.len ≤ maxLen ∧ ∃ b off, a = some ⟨b, off, none⟩ ∧ W.cell? ⟨b, off + i * 3, none⟩ = some (.string z.nm) ∧ W.cell? ⟨b, off + i * 3 + 1, none⟩ = some (.slice z.a z.len z.cap) ∧
      W.cell? ⟨b, off + i * 3 + 2, none⟩ = some (.int .i64 z.fee) ∧ IntsAt W z.a z.len z.mv := by
    intro i hil
    obtain ⟨b, off, n, cs, y, ha, hcl, hc, ht⟩ := hi i hil
    obtain ⟨c0, c1, c2, rfl⟩ := three_cells hcl
    obtain ⟨ys, n', _, _, _, hlen, hf⟩ := DataW.trod_struct Try.underlying54 ht
    have h0 : DataW.trod enc Try.prog W 0 spare held n' 9 (List.take (Try.prog.cellsOf 9) (List.drop 0 [c0, c1, c2])) = ys[0]? := hf 0 _ rfl
    have h1 : DataW.trod enc Try.prog W 0 spare held n' 22 (List.take (Try.prog.cellsOf 22) (List.drop 1 [c0, c1, c2])) = ys[1]? := hf 1 _ rfl
    have h2 : DataW.trod enc Try.prog W 0 spare held n' 3 (List.take (Try.prog.cellsOf 3) (List.drop 2 [c0, c1, c2])) = ys[2]? := hf 2 _ rfl
    rw [show Try.prog.cellsOf 9 = 1 from by kernel_rfl] at h0
    rw [show Try.prog.cellsOf 22 = 1 from by kernel_rfl] at h1
    rw [show Try.prog.cellsOf 3 = 1 from by kernel_rfl] at h2
    simp only [List.drop_zero, List.drop_succ_cons, List.take_succ_cons, List.take_zero] at h0 h1 h2
    have hlen : ys.length = 3 := hlen
    obtain ⟨y0, y1, y2, rfl⟩ : ∃ a b c, ys = [a, b, c] := by
      match ys, hlen with
      | [a, b, c], _ => exact ⟨a, b, c, rfl⟩
    obtain ⟨s, hs, _, hsz⟩ := DataW.trod_string Try.underlying9 h0
    obtain ⟨ma, mn, mc, mv, hms, hmn, _, _, hI, _⟩ := open_is h1
    obtain ⟨q, hq, _, hwf⟩ := DataW.trod_int Try.underlying3 h2
    obtain rfl : c0 = .string s := by simpa using hs
    subst hms
    obtain rfl : c2 = .int .i64 q := by simpa using hq
    exact ⟨⟨s, ma, mn, mc, mv, q⟩, hsz, hmn, b, off, ha, hc 0 _ rfl, hc 1 _ rfl, hc 2 _ rfl, hI⟩
  obtain ⟨f, hf, hd⟩ := pickD hp
  refine ⟨a, len, cap, f, rfl, by omega, fun i hi => (hf i hi).2.2, fun i => ?_⟩
  rcases Nat.lt_or_ge i len with g | g
  · exact ⟨(hf i g).1, (hf i g).2.1⟩
  · rw [hd i g]
    exact ⟨Nat.zero_le _, Nat.zero_le _⟩
theorem open_gr {r : Reach} {b0 : Nat} {v : Value} {d : DataW H} {p : List MemPlace} (hv : Value.okWide Try.prog W r b0 25 v) (h : DataW.Trod enc Try.prog W 0 spare held 25 v d p) :
    ∃ g : Gr, v = .agg #[.slice g.wa g.nw g.wc, .slice g.pa g.np g.pc] ∧ GrAt W g := by
  obtain ⟨v0, v1, y0, y1, n, rfl, _, _, h0, h1⟩ := Go.Joins.open_agg2 Try.underlying25 (by kernel_rfl) (by kernel_rfl) hv h
  obtain ⟨a, n, c, f, rfl, hn, _, _, hI, _⟩ := open_is h0
  obtain ⟨pa, np, pc, P, rfl, hnp, hP, hok⟩ := open_ps h1
  exact ⟨⟨a, n, c, pa, np, pc, f, P⟩, rfl, ⟨hn, hnp, hok, hI, hP⟩⟩
theorem open_pf {r : Reach} {b0 : Nat} {v : Value} {d : DataW H} {p : List MemPlace} (hv : Value.okWide Try.prog W r b0 26 v) (h : DataW.Trod enc Try.prog W 0 spare held 26 v d p) :
    ∃ (a : Option Addr) (c : Nat) (xs : PL), v = .slice a xs.length c ∧ PLok xs ∧ AtL W 2 pc a xs ∧ xs.length ≤ c := by
  obtain ⟨a, len, cap, rfl⟩ := okWide_slice Try.underlying26 hv
  obtain ⟨fuel, hf⟩ := h
  exact open_pl hf
end
end Go.Proofs.Ytmljjofpbonplaa.Mg
