/-
  Member: members, calls and scripts as the statements hand them.
-/
import Derived.Test.YtoemjpfoddeinaaOp
import Derived.Test.YtoemjpfoddeinaaMbS
namespace Go.Proofs.Ytoemjpfoddeinaa.Mb
open Go.RowKit Go.ChangeShapes Go.WideShapes Go.Deep Go.Proofs.Ytoemjpfoddeinaa Go.Proofs.Ytoemjpfoddeinaa.Ls Go.Proofs.Ytoemjpfoddeinaa.Kb
open Go.Proofs.Ytoemjpfoddeinaa.Nm hiding ret_bool ret_int

instance : Inhabited Ac := ⟨ac0⟩
instance : Inhabited P := ⟨p0⟩
instance : Inhabited Opp := ⟨⟨0, ⟨#[]⟩, ⟨#[]⟩, ⟨#[]⟩, 0, false, 0⟩⟩
theorem wf64 {q : Int} (h : (Lit.int .i64 q).wf = true) : i64 q := by
  have h2 : IntKind.i64.min ≤ q ∧ q ≤ IntKind.i64.max := by simpa [Lit.wf] using h
  exact h2
theorem wf8 {q : Int} (h : (Lit.int .u8 q).wf = true) : 0 ≤ q ∧ q ≤ 255 := by
  have h2 : IntKind.u8.min ≤ q ∧ q ≤ IntKind.u8.max := by simpa [Lit.wf] using h
  exact h2
/-- a member as it may be handed in -/
structure RawM (m : Me) : Prop where
  nm : m.nm.size ≤ maxLen
  ro : 0 ≤ m.ro ∧ m.ro ≤ 255
  lim : i64 m.lim
  ac : ∀ a ∈ m.ac, OkA a
theorem RawM.ok {m : Me} (h : RawM m) (hl : m.ac.length ≤ 1000) : OkM m := ⟨h.nm, h.ro, h.lim, hl, h.ac⟩
section
variable {H : Type} {enc : TypeId × Value → H} {W : World} {spare : Nat → Bool} {held : Bool}
theorem open_acs {fuel : Nat} {v : Value} {x : DataW H × List MemPlace} (h : DataW.trod enc Try.prog W 0 spare held fuel 28 [v] = some x) :
    ∃ (a : Option Addr) (c : Nat) (L : List Ac), v = .slice a L.length c ∧ (∀ x ∈ L, OkA x) ∧ L.length ≤ maxLen ∧ AtL W 4 acc a L := by
  obtain ⟨a, len, cap, rfl, hl, hm, hi⟩ := open_cells 4 (by decide) Try.underlying28 (by kernel_rfl) h
  have hp : ∀ i, i < len → ∃ z : Ac, OkA z ∧ ∃ b off, a = some ⟨b, off, none⟩ ∧ ∀ (j : Nat) (u : Value), (acc z)[j]? = some u → W.cell? ⟨b, off + i * 4 + j, none⟩ = some u := by
    intro i hil
    obtain ⟨b, off, n, cs, y, ha, hcl, hc, ht⟩ := hi i hil
    obtain ⟨c0, c1, c2, c3, rfl⟩ : ∃ c0 c1 c2 c3, cs = [c0, c1, c2, c3] := by
      match cs, hcl with
      | [c0, c1, c2, c3], _ => exact ⟨c0, c1, c2, c3, rfl⟩
    obtain ⟨ys, n', _, _, _, hlen, hf⟩ := DataW.trod_struct Try.underlying32 ht
    have h0 : DataW.trod enc Try.prog W 0 spare held n' 9 (List.take (Try.prog.cellsOf 9) (List.drop 0 [c0, c1, c2, c3])) = ys[0]? := hf 0 _ rfl
    rw [show Try.prog.cellsOf 9 = 1 from by kernel_rfl] at h0
    have h1 : DataW.trod enc Try.prog W 0 spare held n' 4 (List.take (Try.prog.cellsOf 4) (List.drop 1 [c0, c1, c2, c3])) = ys[1]? := hf 1 _ rfl
    rw [show Try.prog.cellsOf 4 = 1 from by kernel_rfl] at h1
    have h2 : DataW.trod enc Try.prog W 0 spare held n' 3 (List.take (Try.prog.cellsOf 3) (List.drop 2 [c0, c1, c2, c3])) = ys[2]? := hf 2 _ rfl
    rw [show Try.prog.cellsOf 3 = 1 from by kernel_rfl] at h2
    have h3 : DataW.trod enc Try.prog W 0 spare held n' 3 (List.take (Try.prog.cellsOf 3) (List.drop 3 [c0, c1, c2, c3])) = ys[3]? := hf 3 _ rfl
    rw [show Try.prog.cellsOf 3 = 1 from by kernel_rfl] at h3
    simp only [List.drop_zero, List.drop_succ_cons, List.take_succ_cons, List.take_zero] at h0 h1 h2 h3
    have hlen : ys.length = 4 := hlen
    obtain ⟨y0, y1, y2, y3, rfl⟩ : ∃ c0 c1 c2 c3, ys = [c0, c1, c2, c3] := by
      match ys, hlen with
      | [c0, c1, c2, c3], _ => exact ⟨c0, c1, c2, c3, rfl⟩
    obtain ⟨s0, hs0, _, hz0⟩ := DataW.trod_string Try.underlying9 h0
    obtain rfl : c0 = .string s0 := by simpa using hs0
    obtain ⟨s1, hs1, _⟩ := DataW.trod_bool Try.underlying4 h1
    obtain rfl : c1 = .bool s1 := by simpa using hs1
    obtain ⟨s2, hs2, _, hz2⟩ := DataW.trod_int Try.underlying3 h2
    obtain rfl : c2 = .int .i64 s2 := by simpa using hs2
    obtain ⟨s3, hs3, _, hz3⟩ := DataW.trod_int Try.underlying3 h3
    obtain rfl : c3 = .int .i64 s3 := by simpa using hs3
    exact ⟨⟨s0, s1, s2, s3⟩, ⟨hz0, wf64 hz2, wf64 hz3⟩, b, off, ha, hc⟩
  obtain ⟨xs, hxl, hx⟩ := pickL hp
  subst hxl
  refine ⟨a, cap, xs, rfl, fun z hz => ?_, Nat.le_trans hl hm, fun i x hix => (hx i x hix).2⟩
  obtain ⟨i, hi, rfl⟩ := List.mem_iff_getElem.1 hz
  exact (hx i _ (List.getElem?_eq_getElem hi)).1
theorem open_mes {fuel : Nat} {v : Value} {x : DataW H × List MemPlace} (h : DataW.trod enc Try.prog W 0 spare held fuel 22 [v] = some x) :
    ∃ (a : Option Addr) (c : Nat) (L : List P), v = .slice a L.length c ∧ (∀ x ∈ L, RawM x.1) ∧ L.length ≤ maxLen ∧ AtM W a L := by
  obtain ⟨a, len, cap, rfl, hl, hm, hi⟩ := open_cells 5 (by decide) Try.underlying22 (by kernel_rfl) h
  have hp : ∀ i, i < len → ∃ z : P, RawM z.1 ∧ AtL W 4 acc z.2.1 z.1.ac ∧ ∃ b off, a = some ⟨b, off, none⟩ ∧ ∀ (j : Nat) (u : Value), (mec z)[j]? = some u → W.cell? ⟨b, off + i * 5 + j, none⟩ = some u := by
    intro i hil
    obtain ⟨b, off, n, cs, y, ha, hcl, hc, ht⟩ := hi i hil
    obtain ⟨c0, c1, c2, c3, c4, rfl⟩ : ∃ c0 c1 c2 c3 c4, cs = [c0, c1, c2, c3, c4] := by
      match cs, hcl with
      | [c0, c1, c2, c3, c4], _ => exact ⟨c0, c1, c2, c3, c4, rfl⟩
    obtain ⟨ys, n', _, _, _, hlen, hf⟩ := DataW.trod_struct Try.underlying30 ht
    have h0 : DataW.trod enc Try.prog W 0 spare held n' 9 (List.take (Try.prog.cellsOf 9) (List.drop 0 [c0, c1, c2, c3, c4])) = ys[0]? := hf 0 _ rfl
    rw [show Try.prog.cellsOf 9 = 1 from by kernel_rfl] at h0
    have h1 : DataW.trod enc Try.prog W 0 spare held n' 5 (List.take (Try.prog.cellsOf 5) (List.drop 1 [c0, c1, c2, c3, c4])) = ys[1]? := hf 1 _ rfl
    rw [show Try.prog.cellsOf 5 = 1 from by kernel_rfl] at h1
    have h2 : DataW.trod enc Try.prog W 0 spare held n' 4 (List.take (Try.prog.cellsOf 4) (List.drop 2 [c0, c1, c2, c3, c4])) = ys[2]? := hf 2 _ rfl
    rw [show Try.prog.cellsOf 4 = 1 from by kernel_rfl] at h2
    have h3 : DataW.trod enc Try.prog W 0 spare held n' 3 (List.take (Try.prog.cellsOf 3) (List.drop 3 [c0, c1, c2, c3, c4])) = ys[3]? := hf 3 _ rfl
    rw [show Try.prog.cellsOf 3 = 1 from by kernel_rfl] at h3
    have h4 : DataW.trod enc Try.prog W 0 spare held n' 28 (List.take (Try.prog.cellsOf 28) (List.drop 4 [c0, c1, c2, c3, c4])) = ys[4]? := hf 4 _ rfl
    rw [show Try.prog.cellsOf 28 = 1 from by kernel_rfl] at h4
    simp only [List.drop_zero, List.drop_succ_cons, List.take_succ_cons, List.take_zero] at h0 h1 h2 h3 h4
    have hlen : ys.length = 5 := hlen
    obtain ⟨y0, y1, y2, y3, y4, rfl⟩ : ∃ c0 c1 c2 c3 c4, ys = [c0, c1, c2, c3, c4] := by
      match ys, hlen with
      | [c0, c1, c2, c3, c4], _ => exact ⟨c0, c1, c2, c3, c4, rfl⟩
    obtain ⟨s0, hs0, _, hz0⟩ := DataW.trod_string Try.underlying9 h0
    obtain rfl : c0 = .string s0 := by simpa using hs0
    obtain ⟨s1, hs1, _, hz1⟩ := DataW.trod_int Try.underlying5 h1
    obtain rfl : c1 = .int .u8 s1 := by simpa using hs1
    obtain ⟨s2, hs2, _⟩ := DataW.trod_bool Try.underlying4 h2
    obtain rfl : c2 = .bool s2 := by simpa using hs2
    obtain ⟨s3, hs3, _, hz3⟩ := DataW.trod_int Try.underlying3 h3
    obtain rfl : c3 = .int .i64 s3 := by simpa using hs3
    obtain ⟨sa, sc, sl, hs4, hz4, _, hl4⟩ := open_acs h4
    subst hs4
    exact ⟨(⟨s0, s1, s2, s3, sl⟩, (sa, sc)), ⟨hz0, wf8 hz1, wf64 hz3, hz4⟩, hl4, b, off, ha, hc⟩
  obtain ⟨xs, hxl, hx⟩ := pickL hp
  subst hxl
  refine ⟨a, cap, xs, rfl, fun z hz => ?_, Nat.le_trans hl hm, fun i x hix => (hx i x hix).2.2, fun z hz => ?_⟩
  · obtain ⟨i, hi, rfl⟩ := List.mem_iff_getElem.1 hz
    exact (hx i _ (List.getElem?_eq_getElem hi)).1
  · obtain ⟨i, hi, rfl⟩ := List.mem_iff_getElem.1 hz
    exact (hx i _ (List.getElem?_eq_getElem hi)).2.1
theorem open_ops {fuel : Nat} {v : Value} {x : DataW H × List MemPlace} (h : DataW.trod enc Try.prog W 0 spare held fuel 56 [v] = some x) :
    ∃ (a : Option Addr) (c : Nat) (L : List Opp), v = .slice a L.length c ∧ (∀ x ∈ L, OkO x) ∧ L.length ≤ maxLen ∧ AtL W 7 opc a L := by
  obtain ⟨a, len, cap, rfl, hl, hm, hi⟩ := open_cells 7 (by decide) Try.underlying56 (by kernel_rfl) h
  have hp : ∀ i, i < len → ∃ z : Opp, OkO z ∧ ∃ b off, a = some ⟨b, off, none⟩ ∧ ∀ (j : Nat) (u : Value), (opc z)[j]? = some u → W.cell? ⟨b, off + i * 7 + j, none⟩ = some u := by
    intro i hil
    obtain ⟨b, off, n, cs, y, ha, hcl, hc, ht⟩ := hi i hil
    obtain ⟨c0, c1, c2, c3, c4, c5, c6, rfl⟩ : ∃ c0 c1 c2 c3 c4 c5 c6, cs = [c0, c1, c2, c3, c4, c5, c6] := by
      match cs, hcl with
      | [c0, c1, c2, c3, c4, c5, c6], _ => exact ⟨c0, c1, c2, c3, c4, c5, c6, rfl⟩
    obtain ⟨ys, n', _, _, _, hlen, hf⟩ := DataW.trod_struct Try.underlying48 ht
    have h0 : DataW.trod enc Try.prog W 0 spare held n' 5 (List.take (Try.prog.cellsOf 5) (List.drop 0 [c0, c1, c2, c3, c4, c5, c6])) = ys[0]? := hf 0 _ rfl
    rw [show Try.prog.cellsOf 5 = 1 from by kernel_rfl] at h0
    have h1 : DataW.trod enc Try.prog W 0 spare held n' 9 (List.take (Try.prog.cellsOf 9) (List.drop 1 [c0, c1, c2, c3, c4, c5, c6])) = ys[1]? := hf 1 _ rfl
    rw [show Try.prog.cellsOf 9 = 1 from by kernel_rfl] at h1
    have h2 : DataW.trod enc Try.prog W 0 spare held n' 9 (List.take (Try.prog.cellsOf 9) (List.drop 2 [c0, c1, c2, c3, c4, c5, c6])) = ys[2]? := hf 2 _ rfl
    rw [show Try.prog.cellsOf 9 = 1 from by kernel_rfl] at h2
    have h3 : DataW.trod enc Try.prog W 0 spare held n' 9 (List.take (Try.prog.cellsOf 9) (List.drop 3 [c0, c1, c2, c3, c4, c5, c6])) = ys[3]? := hf 3 _ rfl
    rw [show Try.prog.cellsOf 9 = 1 from by kernel_rfl] at h3
    have h4 : DataW.trod enc Try.prog W 0 spare held n' 5 (List.take (Try.prog.cellsOf 5) (List.drop 4 [c0, c1, c2, c3, c4, c5, c6])) = ys[4]? := hf 4 _ rfl
    rw [show Try.prog.cellsOf 5 = 1 from by kernel_rfl] at h4
    have h5 : DataW.trod enc Try.prog W 0 spare held n' 4 (List.take (Try.prog.cellsOf 4) (List.drop 5 [c0, c1, c2, c3, c4, c5, c6])) = ys[5]? := hf 5 _ rfl
    rw [show Try.prog.cellsOf 4 = 1 from by kernel_rfl] at h5
    have h6 : DataW.trod enc Try.prog W 0 spare held n' 3 (List.take (Try.prog.cellsOf 3) (List.drop 6 [c0, c1, c2, c3, c4, c5, c6])) = ys[6]? := hf 6 _ rfl
    rw [show Try.prog.cellsOf 3 = 1 from by kernel_rfl] at h6
    simp only [List.drop_zero, List.drop_succ_cons, List.take_succ_cons, List.take_zero] at h0 h1 h2 h3 h4 h5 h6
    have hlen : ys.length = 7 := hlen
    obtain ⟨y0, y1, y2, y3, y4, y5, y6, rfl⟩ : ∃ c0 c1 c2 c3 c4 c5 c6, ys = [c0, c1, c2, c3, c4, c5, c6] := by
      match ys, hlen with
      | [c0, c1, c2, c3, c4, c5, c6], _ => exact ⟨c0, c1, c2, c3, c4, c5, c6, rfl⟩
    obtain ⟨s0, hs0, _, hz0⟩ := DataW.trod_int Try.underlying5 h0
    obtain rfl : c0 = .int .u8 s0 := by simpa using hs0
    obtain ⟨s1, hs1, _, hz1⟩ := DataW.trod_string Try.underlying9 h1
    obtain rfl : c1 = .string s1 := by simpa using hs1
    obtain ⟨s2, hs2, _, hz2⟩ := DataW.trod_string Try.underlying9 h2
    obtain rfl : c2 = .string s2 := by simpa using hs2
    obtain ⟨s3, hs3, _, hz3⟩ := DataW.trod_string Try.underlying9 h3
    obtain rfl : c3 = .string s3 := by simpa using hs3
    obtain ⟨s4, hs4, _, hz4⟩ := DataW.trod_int Try.underlying5 h4
    obtain rfl : c4 = .int .u8 s4 := by simpa using hs4
    obtain ⟨s5, hs5, _⟩ := DataW.trod_bool Try.underlying4 h5
    obtain rfl : c5 = .bool s5 := by simpa using hs5
    obtain ⟨s6, hs6, _, hz6⟩ := DataW.trod_int Try.underlying3 h6
    obtain rfl : c6 = .int .i64 s6 := by simpa using hs6
    exact ⟨⟨s0, s1, s2, s3, s4, s5, s6⟩, ⟨wf8 hz0, hz1, hz2, hz3, wf8 hz4, wf64 hz6⟩, b, off, ha, hc⟩
  obtain ⟨xs, hxl, hx⟩ := pickL hp
  subst hxl
  refine ⟨a, cap, xs, rfl, fun z hz => ?_, Nat.le_trans hl hm, fun i x hix => (hx i x hix).2⟩
  obtain ⟨i, hi, rfl⟩ := List.mem_iff_getElem.1 hz
  exact (hx i _ (List.getElem?_eq_getElem hi)).1
theorem array7 {α : Type} {cs : Array α} (h : cs.size = 7) : ∃ c0 c1 c2 c3 c4 c5 c6, cs = #[c0, c1, c2, c3, c4, c5, c6] := by
  obtain ⟨l⟩ := cs
  match l, h with
  | [c0, c1, c2, c3, c4, c5, c6], _ => exact ⟨c0, c1, c2, c3, c4, c5, c6, rfl⟩
theorem array1 {α : Type} {cs : Array α} (h : cs.size = 1) : ∃ c0, cs = #[c0] := by
  obtain ⟨l⟩ := cs
  match l, h with
  | [c0], _ => exact ⟨c0, rfl⟩
set_option maxRecDepth 100000 in
theorem open_op {r : Reach} {b0 : Nat} {v : Value} {d : DataW H} {p : List MemPlace} (hv : Value.okWide Try.prog W r b0 48 v) (h : DataW.Trod enc Try.prog W 0 spare held 48 v d p) :
    ∃ o : Opp, v = .agg #[.int .u8 o.kd, .string o.nm, .string o.fr, .string o.tt, .int .u8 o.ro, .bool o.is, .int .i64 o.am] ∧ OkO o := by
  obtain ⟨cs, rfl, hsz⟩ := okWide_struct Try.underlying48 hv
  rw [show Try.prog.cellsOf 48 = 7 from by kernel_rfl] at hsz
  obtain ⟨c0, c1, c2, c3, c4, c5, c6, rfl⟩ := array7 hsz
  obtain ⟨fuel, ht⟩ := h
  simp only [Value.cells] at ht
  obtain ⟨ys, n', _, _, _, hlen, hf⟩ := DataW.trod_struct Try.underlying48 ht
  have h0 : DataW.trod enc Try.prog W 0 spare held n' 5 (List.take (Try.prog.cellsOf 5) (List.drop 0 [c0, c1, c2, c3, c4, c5, c6])) = ys[0]? := hf 0 _ rfl
  rw [show Try.prog.cellsOf 5 = 1 from by kernel_rfl] at h0
  have h1 : DataW.trod enc Try.prog W 0 spare held n' 9 (List.take (Try.prog.cellsOf 9) (List.drop 1 [c0, c1, c2, c3, c4, c5, c6])) = ys[1]? := hf 1 _ rfl
  rw [show Try.prog.cellsOf 9 = 1 from by kernel_rfl] at h1
  have h2 : DataW.trod enc Try.prog W 0 spare held n' 9 (List.take (Try.prog.cellsOf 9) (List.drop 2 [c0, c1, c2, c3, c4, c5, c6])) = ys[2]? := hf 2 _ rfl
  rw [show Try.prog.cellsOf 9 = 1 from by kernel_rfl] at h2
  have h3 : DataW.trod enc Try.prog W 0 spare held n' 9 (List.take (Try.prog.cellsOf 9) (List.drop 3 [c0, c1, c2, c3, c4, c5, c6])) = ys[3]? := hf 3 _ rfl
  rw [show Try.prog.cellsOf 9 = 1 from by kernel_rfl] at h3
  have h4 : DataW.trod enc Try.prog W 0 spare held n' 5 (List.take (Try.prog.cellsOf 5) (List.drop 4 [c0, c1, c2, c3, c4, c5, c6])) = ys[4]? := hf 4 _ rfl
  rw [show Try.prog.cellsOf 5 = 1 from by kernel_rfl] at h4
  have h5 : DataW.trod enc Try.prog W 0 spare held n' 4 (List.take (Try.prog.cellsOf 4) (List.drop 5 [c0, c1, c2, c3, c4, c5, c6])) = ys[5]? := hf 5 _ rfl
  rw [show Try.prog.cellsOf 4 = 1 from by kernel_rfl] at h5
  have h6 : DataW.trod enc Try.prog W 0 spare held n' 3 (List.take (Try.prog.cellsOf 3) (List.drop 6 [c0, c1, c2, c3, c4, c5, c6])) = ys[6]? := hf 6 _ rfl
  rw [show Try.prog.cellsOf 3 = 1 from by kernel_rfl] at h6
  simp only [List.drop_zero, List.drop_succ_cons, List.take_succ_cons, List.take_zero] at h0 h1 h2 h3 h4 h5 h6
  have hlen : ys.length = 7 := hlen
  obtain ⟨y0, y1, y2, y3, y4, y5, y6, rfl⟩ : ∃ c0 c1 c2 c3 c4 c5 c6, ys = [c0, c1, c2, c3, c4, c5, c6] := by
    match ys, hlen with
    | [c0, c1, c2, c3, c4, c5, c6], _ => exact ⟨c0, c1, c2, c3, c4, c5, c6, rfl⟩
  obtain ⟨s0, hs0, _, hz0⟩ := DataW.trod_int Try.underlying5 h0
  obtain rfl : c0 = .int .u8 s0 := by simpa using hs0
  obtain ⟨s1, hs1, _, hz1⟩ := DataW.trod_string Try.underlying9 h1
  obtain rfl : c1 = .string s1 := by simpa using hs1
  obtain ⟨s2, hs2, _, hz2⟩ := DataW.trod_string Try.underlying9 h2
  obtain rfl : c2 = .string s2 := by simpa using hs2
  obtain ⟨s3, hs3, _, hz3⟩ := DataW.trod_string Try.underlying9 h3
  obtain rfl : c3 = .string s3 := by simpa using hs3
  obtain ⟨s4, hs4, _, hz4⟩ := DataW.trod_int Try.underlying5 h4
  obtain rfl : c4 = .int .u8 s4 := by simpa using hs4
  obtain ⟨s5, hs5, _⟩ := DataW.trod_bool Try.underlying4 h5
  obtain rfl : c5 = .bool s5 := by simpa using hs5
  obtain ⟨s6, hs6, _, hz6⟩ := DataW.trod_int Try.underlying3 h6
  obtain rfl : c6 = .int .i64 s6 := by simpa using hs6
  exact ⟨⟨s0, s1, s2, s3, s4, s5, s6⟩, rfl, ⟨wf8 hz0, hz1, hz2, hz3, wf8 hz4, wf64 hz6⟩⟩
set_option maxRecDepth 100000 in
theorem open_ol {r : Reach} {b0 : Nat} {v : Value} {d : DataW H} {p : List MemPlace} (hv : Value.okWide Try.prog W r b0 56 v) (h : DataW.Trod enc Try.prog W 0 spare held 56 v d p) :
    ∃ (a : Option Addr) (c : Nat) (L : List Opp), v = .slice a L.length c ∧ (∀ x ∈ L, OkO x) ∧ L.length ≤ maxLen ∧ AtL W 7 opc a L := by
  obtain ⟨a, len, cap, rfl⟩ := okWide_slice Try.underlying56 hv
  obtain ⟨fuel, hf⟩ := h
  exact open_ops hf
set_option maxRecDepth 100000 in
theorem open_ms {r : Reach} {b0 : Nat} {v : Value} {d : DataW H} {p : List MemPlace} (hv : Value.okWide Try.prog W r b0 24 v) (h : DataW.Trod enc Try.prog W 0 spare held 24 v d p) :
    ∃ (a : Option Addr) (c : Nat) (L : List P), v = .agg #[.slice a L.length c] ∧ (∀ x ∈ L, RawM x.1) ∧ L.length ≤ maxLen ∧ AtM W a L := by
  obtain ⟨cs, rfl, hsz⟩ := okWide_struct Try.underlying24 hv
  rw [show Try.prog.cellsOf 24 = 1 from by kernel_rfl] at hsz
  obtain ⟨c0, rfl⟩ := array1 hsz
  obtain ⟨fuel, ht⟩ := h
  simp only [Value.cells] at ht
  obtain ⟨ys, n', _, _, _, hlen, hf⟩ := DataW.trod_struct Try.underlying24 ht
  have h0 : DataW.trod enc Try.prog W 0 spare held n' 22 (List.take (Try.prog.cellsOf 22) (List.drop 0 [c0])) = ys[0]? := hf 0 _ rfl
  rw [show Try.prog.cellsOf 22 = 1 from by kernel_rfl] at h0
  simp only [List.drop_zero, List.take_succ_cons, List.take_zero] at h0
  have hlen : ys.length = 1 := hlen
  obtain ⟨y0, rfl⟩ : ∃ a, ys = [a] := by
    match ys, hlen with
    | [a], _ => exact ⟨a, rfl⟩
  obtain ⟨a, c, L, rfl, h1, h2, h3⟩ := open_mes h0
  exact ⟨a, c, L, rfl, h1, h2, h3⟩
end
end Go.Proofs.Ytoemjpfoddeinaa.Mb
