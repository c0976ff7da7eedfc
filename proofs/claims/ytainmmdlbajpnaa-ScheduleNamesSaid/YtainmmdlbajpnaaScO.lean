/-
  Descriptions as the statements hand them.
-/
import Derived.Test.YtainmmdlbajpnaaOp
import Derived.Test.YtainmmdlbajpnaaScB
namespace Go.Proofs.Ytainmmdlbajpnaa.Sc
open Go.RowKit Go.ChangeShapes Go.WideShapes Go.Deep Go.Proofs.Ytainmmdlbajpnaa Go.Proofs.Ytainmmdlbajpnaa.Ls Go.Proofs.Ytainmmdlbajpnaa.Kb

/-- small numbers without sign -/
structure SchU (s : Sch) : Prop where
  wk : 0 ≤ s.wk ∧ s.wk ≤ 255
  stub : 0 ≤ s.stub ∧ s.stub ≤ 255
  roll : 0 ≤ s.roll ∧ s.roll ≤ 255
  S : -9223372036854775808 ≤ s.S ∧ s.S ≤ 9223372036854775807
  E : -9223372036854775808 ≤ s.E ∧ s.E ≤ 9223372036854775807
theorem wf64' {q : Int} (h : (Lit.int .i64 q).wf = true) : -9223372036854775808 ≤ q ∧ q ≤ 9223372036854775807 := by
  have h2 : IntKind.i64.min ≤ q ∧ q ≤ IntKind.i64.max := by simpa [Lit.wf] using h
  exact h2
theorem wf8' {q : Int} (h : (Lit.int .u8 q).wf = true) : 0 ≤ q ∧ q ≤ 255 := by
  have h2 : IntKind.u8.min ≤ q ∧ q ≤ IntKind.u8.max := by simpa [Lit.wf] using h
  exact h2
section
variable {H : Type} {enc : TypeId × Value → H} {W : World} {spare : Nat → Bool} {held : Bool}
theorem open_il {fuel : Nat} {v : Value} {x : DataW H × List MemPlace} (h : DataW.trod enc Try.prog W 0 spare held fuel 22 [v] = some x) :
    ∃ (a : Option Addr) (c : Nat) (xs : List Int), v = .slice a xs.length c ∧ xs.length ≤ maxLen ∧ AtL W 1 ic a xs := by
  obtain ⟨a, len, cap, rfl, hl, hm, hi⟩ := open_cells 1 (by decide) Try.underlying22 (by kernel_rfl) h
  have hp : ∀ i, i < len → ∃ z : Int, ∃ b off, a = some ⟨b, off, none⟩ ∧ ∀ (j : Nat) (u : Value), (ic z)[j]? = some u → W.cell? ⟨b, off + i * 1 + j, none⟩ = some u := by
    intro i hil
    obtain ⟨b, off, n, cs, y, ha, hcl, hc, ht⟩ := hi i hil
    obtain ⟨q, hq, _, hwf⟩ := DataW.trod_int Try.underlying3 ht
    subst hq
    exact ⟨q, b, off, ha, hc⟩
  obtain ⟨xs, hxl, hx⟩ := pickL hp
  subst hxl
  exact ⟨a, cap, xs, rfl, by omega, fun i x hix => hx i x hix⟩
theorem nine {a : Array Value} (h : a.size = 9) : ∃ x0 x1 x2 x3 x4 x5 x6 x7 x8, a = #[x0, x1, x2, x3, x4, x5, x6, x7, x8] := by
  match a, h with
  | ⟨[x0, x1, x2, x3, x4, x5, x6, x7, x8]⟩, _ => exact ⟨x0, x1, x2, x3, x4, x5, x6, x7, x8, rfl⟩
theorem open_sch {r : Reach} {b0 : Nat} {v : Value} {d : DataW H} {p : List MemPlace} (hv : Value.okWide Try.prog W r b0 26 v) (h : DataW.Trod enc Try.prog W 0 spare held 26 v d p) :
    ∃ s : Sch, v = .agg s.cells ∧ SchAt W s ∧ SchU s := by
  obtain ⟨cs, rfl, hsz⟩ := okWide_struct Try.underlying26 hv
  obtain ⟨c0, c1, c2, c3, c4, c5, c6, c7, c8, rfl⟩ := nine (hsz.trans (by kernel_rfl))
  obtain ⟨fuel, hf⟩ := h
  obtain ⟨ys, n', _, _, _, hlen, hg⟩ := DataW.trod_struct Try.underlying26 hf
  have hlen : ys.length = 8 := hlen
  obtain ⟨y0, y1, y2, y3, y4, y5, y6, y7, rfl⟩ : ∃ a b c d e f g h, ys = [a, b, c, d, e, f, g, h] := by
    match ys, hlen with
    | [a, b, c, d, e, f, g, h], _ => exact ⟨a, b, c, d, e, f, g, h, rfl⟩
  have h0 : DataW.trod enc Try.prog W 0 spare held n' 3 [c0] = some y0 := hg 0 _ rfl
  have h1 : DataW.trod enc Try.prog W 0 spare held n' 3 [c1] = some y1 := hg 1 _ rfl
  have h2 : DataW.trod enc Try.prog W 0 spare held n' 3 [c2] = some y2 := hg 2 _ rfl
  have h3 : DataW.trod enc Try.prog W 0 spare held n' 4 [c3] = some y3 := hg 3 _ rfl
  have h4 : DataW.trod enc Try.prog W 0 spare held n' 4 [c4] = some y4 := hg 4 _ rfl
  have h5 : DataW.trod enc Try.prog W 0 spare held n' 5 [c5] = some y5 := hg 5 _ rfl
  have h6 : DataW.trod enc Try.prog W 0 spare held n' 5 [c6] = some y6 := hg 6 _ rfl
  have h7 : DataW.trod enc Try.prog W 0 spare held n' 24 [c7, c8] = some y7 := hg 7 _ rfl
  obtain ⟨q0, e0, _, w0⟩ := DataW.trod_int Try.underlying3 h0
  obtain ⟨q1, e1, _, w1⟩ := DataW.trod_int Try.underlying3 h1
  obtain ⟨q2, e2, _, w2⟩ := DataW.trod_int Try.underlying3 h2
  obtain ⟨q3, e3, _⟩ := DataW.trod_bool Try.underlying4 h3
  obtain ⟨q4, e4, _⟩ := DataW.trod_bool Try.underlying4 h4
  obtain ⟨q5, e5, _, w5⟩ := DataW.trod_int Try.underlying5 h5
  obtain ⟨q6, e6, _, w6⟩ := DataW.trod_int Try.underlying5 h6
  obtain ⟨zs, n2, _, _, _, hlen2, hg2⟩ := DataW.trod_struct Try.underlying24 h7
  have hlen2 : zs.length = 2 := hlen2
  obtain ⟨z0, z1, rfl⟩ : ∃ a b, zs = [a, b] := by
    match zs, hlen2 with
    | [a, b], _ => exact ⟨a, b, rfl⟩
  have h8 : DataW.trod enc Try.prog W 0 spare held n2 5 [c7] = some z0 := hg2 0 _ rfl
  have h9 : DataW.trod enc Try.prog W 0 spare held n2 22 [c8] = some z1 := hg2 1 _ rfl
  obtain ⟨q7, e7, _, w7⟩ := DataW.trod_int Try.underlying5 h8
  obtain ⟨a, c, xs, e8, hn, hA⟩ := open_il h9
  obtain rfl : c0 = .int .i64 q0 := by simpa using e0
  obtain rfl : c1 = .int .i64 q1 := by simpa using e1
  obtain rfl : c2 = .int .i64 q2 := by simpa using e2
  obtain rfl : c3 = .bool q3 := by simpa using e3
  obtain rfl : c4 = .bool q4 := by simpa using e4
  obtain rfl : c5 = .int .u8 q5 := by simpa using e5
  obtain rfl : c6 = .int .u8 q6 := by simpa using e6
  obtain rfl : c7 = .int .u8 q7 := by simpa using e7
  subst e8
  exact ⟨⟨q0, q1, q2, q3, q4, q5, q6, q7, a, c, xs⟩, rfl, ⟨hn, hA, wf64' w2⟩, ⟨wf8' w7, wf8' w5, wf8' w6, wf64' w0, wf64' w1⟩⟩
end
end Go.Proofs.Ytainmmdlbajpnaa.Sc
