/-
  Collateral's laws: the chapter's example holds.
-/
import Derived.Test.YtbfgnkakcnhojaaCoL
namespace Go.Proofs.Ytbfgnkakcnhojaa.Co
open Go.RowKit Go.Proofs.Ytbfgnkakcnhojaa Go.Proofs.Ytbfgnkakcnhojaa.Ls Go.Proofs.Ytbfgnkakcnhojaa.Kb
open Go.Proofs.Ytbfgnkakcnhojaa.Nm hiding ret_bool ret_int

theorem ex_fit : fitB exA exI (exL 1 9) = true := by kernel_rfl
theorem ex_mkt : mkt (mkP exA (exL 1 9)) (moF exI) = 190 := by kernel_rfl
theorem ex_gl : (gl (mkP exA (exL 1 9)) (moF exI)).map Prod.snd = [90, 60] := by kernel_rfl
theorem ex_val : val (mkP exA (exL 1 9)) (moF exI) = 150 := by kernel_rfl
theorem ex_fn : fnL (exL 1 9) ⟨#[98]⟩ = some 1 := by kernel_rfl
theorem ex_uv : Uv exA exI (exL 1 9) 1 (9 - 3) = 150 ∧ Uv exA exI (exL 1 9) 1 (9 - 4) = 140 ∧ Uv exA exI (exL 1 9) 1 (9 - 5) = 130 ∧ Uv exA exI (exL 1 9) 1 (9 - 6) = 120 ∧ Uv exA exI (exL 1 9) 1 (9 - 7) = 110 ∧ Uv exA exI (exL 1 9) 1 (9 - 8) = 100 ∧ Uv exA exI (exL 1 9) 1 (9 - 9) = 90 :=
  ⟨by kernel_rfl, by kernel_rfl, by kernel_rfl, by kernel_rfl, by kernel_rfl, by kernel_rfl, by kernel_rfl⟩
theorem ex_rel : RelR exA exI (exL 1 9) ⟨#[98]⟩ 145 3 0 := by
  refine .ok ex_fit 1 ex_fn ⟨by omega, by omega⟩ (by rw [ex_val]; omega) ⟨by omega, by show (3 : Int) ≤ 9; omega, by show (145 : Int) ≤ Uv exA exI (exL 1 9) 1 (9 - 3); rw [ex_uv.1]; omega, ?_⟩ rfl
  intro m h1 h2
  change m ≤ 9 at h2
  show Uv exA exI (exL 1 9) 1 (9 - m) < 145
  have hu := ex_uv
  have : m = 4 ∨ m = 5 ∨ m = 6 ∨ m = 7 ∨ m = 8 ∨ m = 9 := by omega
  rcases this with rfl | rfl | rfl | rfl | rfl | rfl <;> omega
theorem ex_szA : SzA exA := by
  intro i
  match i with
  | 0 => exact ⟨by decide, by decide⟩
  | 1 => exact ⟨by decide, by decide⟩
  | n + 2 => exact ⟨Nat.zero_le _, Nat.zero_le _⟩
theorem ex_szI : SzL exI := by
  intro i
  match i with
  | 0 => show (1 : Nat) ≤ maxLen; decide
  | n + 1 => exact Nat.zero_le _
theorem ex_szL (a b : Int) : SzL (exL a b) := by
  intro i
  match i with
  | 0 => show (1 : Nat) ≤ maxLen; decide
  | 1 => show (1 : Nat) ≤ maxLen; decide
  | n + 2 => exact Nat.zero_le _
/-- a table and holdings as table and held make them -/
def ExT (w : World) (x y : Nat) : Prop := w.heap[x]? = some (.cells exAc 48 (0, 0)) ∧ w.heap[y]? = some (.cells exIc 50 (0, 0))
def ExH (w : World) (z : Nat) (a b : Int) : Prop := w.heap[z]? = some (.cells (exLc a b) 56 (0, 0))
theorem ExT.A {w : World} {x y : Nat} (h : ExT w x y) : AtL w 6 asc (some ⟨x, 0, none⟩) exA := atL_blk asc_len h.1 rfl
theorem ExT.I {w : World} {x y : Nat} (h : ExT w x y) : AtL w 2 isc (some ⟨y, 0, none⟩) exI := atL_blk isc_len h.2 rfl
theorem ExH.L {w : World} {z : Nat} {a b : Int} (h : ExH w z a b) : AtL w 2 isc (some ⟨z, 0, none⟩) (exL a b) := atL_blk isc_len h rfl
theorem ExT.keep {w w' : World} {x y : Nat} (h : ExT w x y) (hb : Below w.heap.size w w') : ExT w' x y := ⟨blk_keep h.1 hb, blk_keep h.2 hb⟩
theorem ex_market (x y z : Nat) (w : World) (hT : ExT w x y) (hH : ExH w z 1 9) :
    Calls Try.prog 14 #[.agg #[.slice (some ⟨x, 0, none⟩) 2 2, .slice (some ⟨y, 0, none⟩) 1 1], .slice (some ⟨z, 0, none⟩) 2 2] w fun e w' => e = .returned (.tuple #[.int .i64 190, .int .i64 0]) ∧ Below w.heap.size w w' := by
  have h := market_yes (some ⟨x, 0, none⟩) (some ⟨y, 0, none⟩) (some ⟨z, 0, none⟩) 2 1 2 exA exI (exL 1 9) w (by decide) (by decide) (by show (2 : Nat) ≤ 1000; omega) ex_szA ex_szI (ex_szL 1 9) hT.A hT.I hH.L ex_fit
  rw [ex_mkt] at h
  exact h
theorem ex_counted (x y z : Nat) (w : World) (hT : ExT w x y) (hH : ExH w z 1 9) :
    Calls Try.prog 16 #[.agg #[.slice (some ⟨x, 0, none⟩) 2 2, .slice (some ⟨y, 0, none⟩) 1 1], .slice (some ⟨z, 0, none⟩) 2 2] w fun e w' => ∃ a c, e = .returned (.tuple #[.slice a 2 c, .int .i64 0]) ∧ AtL w' 1 ic a [90, 60] ∧ Below w.heap.size w w' := by
  have h := counted_yes (some ⟨x, 0, none⟩) (some ⟨y, 0, none⟩) (some ⟨z, 0, none⟩) 2 1 2 exA exI (exL 1 9) w (by decide) (by decide) (by show (2 : Nat) ≤ 1000; omega) ex_szA ex_szI (ex_szL 1 9) hT.A hT.I hH.L ex_fit
  rw [ex_gl] at h
  refine h.mono ?_
  rintro e w' ⟨a, c, rfl, hO, hb⟩
  exact ⟨a, c, rfl, (hO.sl ic_len).1, hb⟩
theorem ex_value (x y z : Nat) (w : World) (hT : ExT w x y) (hH : ExH w z 1 9) :
    Calls Try.prog 18 #[.agg #[.slice (some ⟨x, 0, none⟩) 2 2, .slice (some ⟨y, 0, none⟩) 1 1], .slice (some ⟨z, 0, none⟩) 2 2] w fun e w' => e = .returned (.tuple #[.int .i64 150, .int .i64 0]) ∧ Below w.heap.size w w' := by
  have h := pvalue_yes (some ⟨x, 0, none⟩) (some ⟨y, 0, none⟩) (some ⟨z, 0, none⟩) 2 1 2 exA exI (exL 1 9) w (by decide) (by decide) (by show (2 : Nat) ≤ 1000; omega) ex_szA ex_szI (ex_szL 1 9) hT.A hT.I hH.L ex_fit
  rw [ex_val] at h
  exact h
theorem ex_release (x y z : Nat) (w : World) (hT : ExT w x y) (hH : ExH w z 1 9) :
    Calls Try.prog 20 #[.agg #[.slice (some ⟨x, 0, none⟩) 2 2, .slice (some ⟨y, 0, none⟩) 1 1], .slice (some ⟨z, 0, none⟩) 2 2, .string ⟨#[98]⟩, .int .i64 145] w fun e w' => e = .returned (.tuple #[.int .i64 3, .int .i64 0]) ∧ Below w.heap.size w w' :=
  release_any (some ⟨x, 0, none⟩) (some ⟨y, 0, none⟩) (some ⟨z, 0, none⟩) 2 1 2 exA exI (exL 1 9) ⟨#[98]⟩ 145 3 0 w (by decide) (by decide) (by show (2 : Nat) ≤ 1000; omega) ex_szA ex_szI (ex_szL 1 9) hT.A hT.I hH.L ex_rel
theorem ints_yes (a b : Option Addr) (c d : Nat) (xs : List Int) (n : Nat) (w : World) (hn : xs.length = n) (hx : n ≤ 1000) (hA : AtL w 1 ic a xs) (hB : AtL w 1 ic b xs) :
    Calls Try.prog 22 #[.slice a n c, .slice b n d] w fun e w' => e = .returned (.bool true) ∧ Below w.heap.size w w' := by
  have h := ints_any a b c d xs xs n w hn hx hn hA hB
  rw [decide_eq_true rfl] at h
  exact h
set_option maxRecDepth 100000 in
set_option maxHeartbeats 2000000 in
theorem alive_any (w : World) : Calls Try.prog 11 #[] w fun e w' => e = .returned (.bool true) ∧ Below w.heap.size w w' := by
  go_enter Try.func11, Try.ntmps11
  have c0 : Below w.heap.size w w := Below.refl _ _
  go_wp2_with fail
  refine (table_is _).mono ?_
  rintro e u0 ⟨x0, y0, rfl, _, _, g1, g2, hb⟩
  have d0 := bt c0 hb (Nat.le_refl _)
  have HT0 := Lib.hid (show ExT u0 x0 y0 from ⟨g1, g2⟩)
  clear g1 g2 hb c0
  go_wp2_with fail
  refine (held_is 1 9 _).mono ?_
  rintro e v0 ⟨z0, rfl, _, g1, hb⟩
  have e0 := bt d0 hb (Nat.le_refl _)
  have HU0 := Lib.hid (HT0.out.keep hb)
  have HH0 := Lib.hid (show ExH v0 z0 1 9 from g1)
  clear g1 hb d0 HT0
  go_wp2_with fail
  refine (ex_market x0 y0 z0 _ HU0.out HH0.out).mono ?_
  rintro e t0 ⟨rfl, hb⟩
  have c1 := bt e0 hb (Nat.le_refl _)
  clear hb e0 HU0 HH0
  go_wp2_with fail
  refine (table_is _).mono ?_
  rintro e u1 ⟨x1, y1, rfl, _, _, g1, g2, hb⟩
  have d1 := bt c1 hb (Nat.le_refl _)
  have HT1 := Lib.hid (show ExT u1 x1 y1 from ⟨g1, g2⟩)
  clear g1 g2 hb c1
  go_wp2_with fail
  refine (held_is 1 9 _).mono ?_
  rintro e v1 ⟨z1, rfl, _, g1, hb⟩
  have e1 := bt d1 hb (Nat.le_refl _)
  have HU1 := Lib.hid (HT1.out.keep hb)
  have HH1 := Lib.hid (show ExH v1 z1 1 9 from g1)
  clear g1 hb d1 HT1
  go_wp2_with fail
  refine (ex_counted x1 y1 z1 _ HU1.out HH1.out).mono ?_
  rintro e t1 ⟨ia, ica, rfl, hI, hb⟩
  have c2 := bt e1 hb (Nat.le_refl _)
  have HI := Lib.hid hI
  clear hI
  clear hb e1 HU1 HH1
  go_wp2_with fail
  refine (table_is _).mono ?_
  rintro e u2 ⟨x2, y2, rfl, _, _, g1, g2, hb⟩
  have d2 := bt c2 hb (Nat.le_refl _)
  have HT2 := Lib.hid (show ExT u2 x2 y2 from ⟨g1, g2⟩)
  have HV := Lib.hid (HI.out.below hb)
  clear HI
  have HI := HV
  clear HV
  clear g1 g2 hb c2
  go_wp2_with fail
  refine (held_is 1 9 _).mono ?_
  rintro e v2 ⟨z2, rfl, _, g1, hb⟩
  have e2 := bt d2 hb (Nat.le_refl _)
  have HU2 := Lib.hid (HT2.out.keep hb)
  have HH2 := Lib.hid (show ExH v2 z2 1 9 from g1)
  have HV := Lib.hid (HI.out.below hb)
  clear HI
  have HI := HV
  clear HV
  clear g1 hb d2 HT2
  go_wp2_with fail
  refine (ex_value x2 y2 z2 _ HU2.out HH2.out).mono ?_
  rintro e t2 ⟨rfl, hb⟩
  have c3 := bt e2 hb (Nat.le_refl _)
  have HV := Lib.hid (HI.out.below hb)
  clear HI
  have HI := HV
  clear HV
  clear hb e2 HU2 HH2
  go_wp2_with fail
  refine (table_is _).mono ?_
  rintro e u3 ⟨x3, y3, rfl, _, _, g1, g2, hb⟩
  have d3 := bt c3 hb (Nat.le_refl _)
  have HT3 := Lib.hid (show ExT u3 x3 y3 from ⟨g1, g2⟩)
  have HV := Lib.hid (HI.out.below hb)
  clear HI
  have HI := HV
  clear HV
  clear g1 g2 hb c3
  go_wp2_with fail
  refine (held_is 1 9 _).mono ?_
  rintro e v3 ⟨z3, rfl, _, g1, hb⟩
  have e3 := bt d3 hb (Nat.le_refl _)
  have HU3 := Lib.hid (HT3.out.keep hb)
  have HH3 := Lib.hid (show ExH v3 z3 1 9 from g1)
  have HV := Lib.hid (HI.out.below hb)
  clear HI
  have HI := HV
  clear HV
  clear g1 hb d3 HT3
  go_wp2_with fail
  refine (ex_release x3 y3 z3 _ HU3.out HH3.out).mono ?_
  rintro e t3 ⟨rfl, hb⟩
  have c4 := bt e3 hb (Nat.le_refl _)
  have HV := Lib.hid (HI.out.below hb)
  clear HI
  have HI := HV
  clear HV
  clear hb e3 HU3 HH3
  have HBX := Lib.hid (blk_new t3 (.cells #[.int .i64 90, .int .i64 60] 3))
  have hbn : Below w.heap.size w (t3.alloc (.cells #[.int .i64 90, .int .i64 60] 3)) := c4.alloc c4.size _
  have HIN := Lib.hid (ints_yes ia (some ⟨t3.heap.size, 0, none⟩) ica 2 [90, 60] 2 (t3.alloc (.cells #[.int .i64 90, .int .i64 60] 3)) rfl (by omega) (HI.out.below ((Below.refl _ _).alloc (Nat.le_refl _) _)) (atL_blk (fun _ => rfl) HBX.out rfl))
  clear c4 HI HBX
  go_wp2_with fail
  refine HIN.out.mono ?_
  rintro e w9 ⟨rfl, hb⟩
  have c9 := bt hbn hb (Nat.le_refl _)
  clear HIN hbn hb
  go_wp2
  go_ret
  exact ⟨rfl, c9⟩
end Go.Proofs.Ytbfgnkakcnhojaa.Co
