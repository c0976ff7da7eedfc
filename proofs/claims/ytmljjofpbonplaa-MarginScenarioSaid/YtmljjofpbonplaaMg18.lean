/-
  Margin's laws: the chapter's example holds.
-/
import Derived.Test.YtmljjofpbonplaaMg17
namespace Go.Proofs.Ytmljjofpbonplaa.Mg
open Go.RowKit Go.Proofs.Ytmljjofpbonplaa Go.Proofs.Ytmljjofpbonplaa.Nm Go.Proofs.Ytmljjofpbonplaa.Ls

theorem ex_base1 (wa pa ma : Addr) (a : Option Addr) (c : Nat) (w : World) (hG : GrAt w (exG wa pa ma)) (hL : PfAt w (pfl a c [(⟨#[112]⟩, 5)])) :
    Calls Try.prog 16 #[.agg #[.slice (some wa) 2 2, .slice (some pa) 1 1], .slice a 1 c] w fun e w' => e = .returned (.tuple #[.int .i64 20, .int .i64 0]) ∧ Below w.heap.size w w' := by
  obtain ⟨⟨f1, f2⟩, n1, n2, n3, n4, n5, n6, n7⟩ := ex_nums wa pa ma a c
  refine (base_any (exG wa pa ma) (pfl a c [(⟨#[112]⟩, 5)]) w hG hL).mono ?_
  rintro e w' ⟨rfl, hb⟩
  rw [n1, f1]
  exact ⟨rfl, hb⟩
theorem ex_margin1 (wa pa ma : Addr) (a : Option Addr) (c : Nat) (w : World) (hG : GrAt w (exG wa pa ma)) (hL : PfAt w (pfl a c [(⟨#[112]⟩, 5)])) :
    Calls Try.prog 22 #[.agg #[.slice (some wa) 2 2, .slice (some pa) 1 1], .slice a 1 c] w fun e w' => e = .returned (.tuple #[.int .i64 25, .int .i64 0]) ∧ Below w.heap.size w w' := by
  obtain ⟨⟨f1, f2⟩, n1, n2, n3, n4, n5, n6, n7⟩ := ex_nums wa pa ma a c
  refine (margin_any (exG wa pa ma) (pfl a c [(⟨#[112]⟩, 5)]) w hG hL).mono ?_
  rintro e w' ⟨rfl, hb⟩
  rw [n2, f1]
  exact ⟨rfl, hb⟩
theorem ex_base2 (wa pa ma : Addr) (a : Option Addr) (c : Nat) (w : World) (hG : GrAt w (exG wa pa ma)) (hL : PfAt w (pfl a c [(⟨#[112]⟩, -5)])) :
    Calls Try.prog 16 #[.agg #[.slice (some wa) 2 2, .slice (some pa) 1 1], .slice a 1 c] w fun e w' => e = .returned (.tuple #[.int .i64 30, .int .i64 0]) ∧ Below w.heap.size w w' := by
  obtain ⟨⟨f1, f2⟩, n1, n2, n3, n4, n5, n6, n7⟩ := ex_nums wa pa ma a c
  refine (base_any (exG wa pa ma) (pfl a c [(⟨#[112]⟩, -5)]) w hG hL).mono ?_
  rintro e w' ⟨rfl, hb⟩
  rw [n3, f2]
  exact ⟨rfl, hb⟩
theorem ex_margin2 (wa pa ma : Addr) (a : Option Addr) (c : Nat) (w : World) (hG : GrAt w (exG wa pa ma)) (hL : PfAt w (pfl a c [(⟨#[112]⟩, -5)])) :
    Calls Try.prog 22 #[.agg #[.slice (some wa) 2 2, .slice (some pa) 1 1], .slice a 1 c] w fun e w' => e = .returned (.tuple #[.int .i64 35, .int .i64 0]) ∧ Below w.heap.size w w' := by
  obtain ⟨⟨f1, f2⟩, n1, n2, n3, n4, n5, n6, n7⟩ := ex_nums wa pa ma a c
  refine (margin_any (exG wa pa ma) (pfl a c [(⟨#[112]⟩, -5)]) w hG hL).mono ?_
  rintro e w' ⟨rfl, hb⟩
  rw [n4, f2]
  exact ⟨rfl, hb⟩
theorem ex_worst2 (wa pa ma : Addr) (a : Option Addr) (c : Nat) (w : World) (hG : GrAt w (exG wa pa ma)) (hL : PfAt w (pfl a c [(⟨#[112]⟩, -5)])) :
    Calls Try.prog 18 #[.agg #[.slice (some wa) 2 2, .slice (some pa) 1 1], .slice a 1 c] w fun e w' => e = .returned (.tuple #[.int .i64 1, .int .i64 0]) ∧ Below w.heap.size w w' := by
  obtain ⟨⟨f1, f2⟩, n1, n2, n3, n4, n5, n6, n7⟩ := ex_nums wa pa ma a c
  refine (worstAt_any (exG wa pa ma) (pfl a c [(⟨#[112]⟩, -5)]) w hG hL).mono ?_
  rintro e w' ⟨rfl, hb⟩
  rw [n5, f2]
  exact ⟨rfl, hb⟩
theorem ex_loss2 (wa pa ma : Addr) (a : Option Addr) (c : Nat) (w : World) (hG : GrAt w (exG wa pa ma)) (hL : PfAt w (pfl a c [(⟨#[112]⟩, -5)])) :
    Calls Try.prog 14 #[.agg #[.slice (some wa) 2 2, .slice (some pa) 1 1], .slice a 1 c, .int .i64 1] w fun e w' => e = .returned (.tuple #[.int .i64 100, .int .i64 0]) ∧ Below w.heap.size w w' := by
  obtain ⟨⟨f1, f2⟩, n1, n2, n3, n4, n5, n6, n7⟩ := ex_nums wa pa ma a c
  refine (loss_any (exG wa pa ma) (pfl a c [(⟨#[112]⟩, -5)]) 1 w hG hL).mono ?_
  rintro e w' ⟨rfl, hb⟩
  rw [n6, n7]
  exact ⟨rfl, hb⟩

/-- one position in a block of its own -/
theorem at_one {w : World} {B : Nat} {s : ByteArray} {q : Int} {T : TypeId} (h : w.heap[B]? = some (.cells #[.string s, .int .i64 q] T (0, 0))) : AtL w 2 pc (some ⟨B, 0, none⟩) [(s, q)] := fun i x hx => by
  cases i with
  | zero =>
    obtain rfl : (s, q) = x := by simpa using hx
    refine ⟨B, 0, rfl, fun j u hu => ?_⟩
    have : w.cell? ⟨B, j, none⟩ = some u := cell_of h j u (by simpa [pc] using hu)
    simpa using this
  | succ i => simp at hx
theorem ok_one (s : ByteArray) (q : Int) (hs : s.size ≤ 40) (hq : -1000000 ≤ q ∧ q ≤ 1000000) : PLok [(s, q)] := by
  refine ⟨by show 1 ≤ maxLen; unfold maxLen; omega, fun z hz => ?_, fun z hz => ?_⟩
  · obtain rfl := List.mem_singleton.1 hz
    show s.size ≤ maxLen
    unfold maxLen
    omega
  · obtain rfl := List.mem_singleton.1 hz
    show i64R q
    unfold i64R
    omega

set_option maxRecDepth 100000 in
set_option maxHeartbeats 2000000 in
theorem alive_any (w : World) : Calls Try.prog 11 #[] w fun e w' => e = .returned (.bool true) ∧ Below w.heap.size w w' := by
  have hbo : Below w.heap.size w ((w.alloc (.cells #[.string ⟨#[112]⟩, .int .i64 5] 51)).alloc (.cells #[.string ⟨#[112]⟩, .int .i64 (-5)] 51)) := ((Below.refl _ _).alloc (Nat.le_refl _) _).alloc (by simp) _
  have hblk := blk_two w (.cells #[.string ⟨#[112]⟩, .int .i64 5] 51) (.cells #[.string ⟨#[112]⟩, .int .i64 (-5)] 51)
  have HP := Lib.hid (show PfAt _ (pfl (some ⟨w.heap.size, 0, none⟩) 1 [(⟨#[112]⟩, 5)]) ∧ PfAt _ (pfl (some ⟨w.heap.size + 1, 0, none⟩) 1 [(⟨#[112]⟩, -5)]) from ⟨pfl_at (ok_one _ _ (by decide) (by omega)) (at_one hblk.1), pfl_at (ok_one _ _ (by decide) (by omega)) (at_one hblk.2)⟩)
  have HB := Lib.hid hbo
  clear hbo hblk
  go_enter Try.func11, Try.ntmps11
  go_wp2_with fail
  refine (grid_any _).mono ?_
  rintro e x0 ⟨wa, pa, ma, rfl, hG0, hg0⟩
  have d0 := bt HB.out hg0 (by simp)
  have HQ0 := Lib.hid (show PfAt x0 (pfl (some ⟨w.heap.size, 0, none⟩) 1 [(⟨#[112]⟩, 5)]) ∧ PfAt x0 (pfl (some ⟨w.heap.size + 1, 0, none⟩) 1 [(⟨#[112]⟩, -5)]) from ⟨(HP.out).1.below hg0, (HP.out).2.below hg0⟩)
  have HG0 := Lib.hid hG0
  clear hG0 hg0 HB HP
  go_wp2_with fail
  refine (ex_base1 wa pa ma _ _ _ HG0.out HQ0.out.1).mono ?_
  rintro e y0 ⟨rfl, hb0⟩
  have c0 := bt d0 hb0 (Nat.le_refl _)
  have HR := Lib.hid (show PfAt y0 (pfl (some ⟨w.heap.size, 0, none⟩) 1 [(⟨#[112]⟩, 5)]) ∧ PfAt y0 (pfl (some ⟨w.heap.size + 1, 0, none⟩) 1 [(⟨#[112]⟩, -5)]) from ⟨HQ0.out.1.below hb0, HQ0.out.2.below hb0⟩)
  clear HQ0 HG0 hb0 d0
  have HQ0 := HR
  clear HR
  go_wp2_with fail
  refine (grid_any _).mono ?_
  rintro e x1 ⟨wa, pa, ma, rfl, hG1, hg1⟩
  have d1 := bt c0 hg1 (Nat.le_refl _)
  have HQ1 := Lib.hid (show PfAt x1 (pfl (some ⟨w.heap.size, 0, none⟩) 1 [(⟨#[112]⟩, 5)]) ∧ PfAt x1 (pfl (some ⟨w.heap.size + 1, 0, none⟩) 1 [(⟨#[112]⟩, -5)]) from ⟨(HQ0.out).1.below hg1, (HQ0.out).2.below hg1⟩)
  have HG1 := Lib.hid hG1
  clear hG1 hg1 c0 HQ0
  go_wp2_with fail
  refine (ex_margin1 wa pa ma _ _ _ HG1.out HQ1.out.1).mono ?_
  rintro e y1 ⟨rfl, hb1⟩
  have c1 := bt d1 hb1 (Nat.le_refl _)
  have HR := Lib.hid (show PfAt y1 (pfl (some ⟨w.heap.size, 0, none⟩) 1 [(⟨#[112]⟩, 5)]) ∧ PfAt y1 (pfl (some ⟨w.heap.size + 1, 0, none⟩) 1 [(⟨#[112]⟩, -5)]) from ⟨HQ1.out.1.below hb1, HQ1.out.2.below hb1⟩)
  clear HQ1 HG1 hb1 d1
  have HQ1 := HR
  clear HR
  go_wp2_with fail
  refine (grid_any _).mono ?_
  rintro e x2 ⟨wa, pa, ma, rfl, hG2, hg2⟩
  have d2 := bt c1 hg2 (Nat.le_refl _)
  have HQ2 := Lib.hid (show PfAt x2 (pfl (some ⟨w.heap.size, 0, none⟩) 1 [(⟨#[112]⟩, 5)]) ∧ PfAt x2 (pfl (some ⟨w.heap.size + 1, 0, none⟩) 1 [(⟨#[112]⟩, -5)]) from ⟨(HQ1.out).1.below hg2, (HQ1.out).2.below hg2⟩)
  have HG2 := Lib.hid hG2
  clear hG2 hg2 c1 HQ1
  go_wp2_with fail
  refine (ex_base2 wa pa ma _ _ _ HG2.out HQ2.out.2).mono ?_
  rintro e y2 ⟨rfl, hb2⟩
  have c2 := bt d2 hb2 (Nat.le_refl _)
  have HR := Lib.hid (show PfAt y2 (pfl (some ⟨w.heap.size, 0, none⟩) 1 [(⟨#[112]⟩, 5)]) ∧ PfAt y2 (pfl (some ⟨w.heap.size + 1, 0, none⟩) 1 [(⟨#[112]⟩, -5)]) from ⟨HQ2.out.1.below hb2, HQ2.out.2.below hb2⟩)
  clear HQ2 HG2 hb2 d2
  have HQ2 := HR
  clear HR
  go_wp2_with fail
  refine (grid_any _).mono ?_
  rintro e x3 ⟨wa, pa, ma, rfl, hG3, hg3⟩
  have d3 := bt c2 hg3 (Nat.le_refl _)
  have HQ3 := Lib.hid (show PfAt x3 (pfl (some ⟨w.heap.size, 0, none⟩) 1 [(⟨#[112]⟩, 5)]) ∧ PfAt x3 (pfl (some ⟨w.heap.size + 1, 0, none⟩) 1 [(⟨#[112]⟩, -5)]) from ⟨(HQ2.out).1.below hg3, (HQ2.out).2.below hg3⟩)
  have HG3 := Lib.hid hG3
  clear hG3 hg3 c2 HQ2
  go_wp2_with fail
  refine (ex_margin2 wa pa ma _ _ _ HG3.out HQ3.out.2).mono ?_
  rintro e y3 ⟨rfl, hb3⟩
  have c3 := bt d3 hb3 (Nat.le_refl _)
  have HR := Lib.hid (show PfAt y3 (pfl (some ⟨w.heap.size, 0, none⟩) 1 [(⟨#[112]⟩, 5)]) ∧ PfAt y3 (pfl (some ⟨w.heap.size + 1, 0, none⟩) 1 [(⟨#[112]⟩, -5)]) from ⟨HQ3.out.1.below hb3, HQ3.out.2.below hb3⟩)
  clear HQ3 HG3 hb3 d3
  have HQ3 := HR
  clear HR
  go_wp2_with fail
  refine (grid_any _).mono ?_
  rintro e x4 ⟨wa, pa, ma, rfl, hG4, hg4⟩
  have d4 := bt c3 hg4 (Nat.le_refl _)
  have HQ4 := Lib.hid (show PfAt x4 (pfl (some ⟨w.heap.size, 0, none⟩) 1 [(⟨#[112]⟩, 5)]) ∧ PfAt x4 (pfl (some ⟨w.heap.size + 1, 0, none⟩) 1 [(⟨#[112]⟩, -5)]) from ⟨(HQ3.out).1.below hg4, (HQ3.out).2.below hg4⟩)
  have HG4 := Lib.hid hG4
  clear hG4 hg4 c3 HQ3
  go_wp2_with fail
  refine (ex_worst2 wa pa ma _ _ _ HG4.out HQ4.out.2).mono ?_
  rintro e y4 ⟨rfl, hb4⟩
  have c4 := bt d4 hb4 (Nat.le_refl _)
  have HR := Lib.hid (show PfAt y4 (pfl (some ⟨w.heap.size, 0, none⟩) 1 [(⟨#[112]⟩, 5)]) ∧ PfAt y4 (pfl (some ⟨w.heap.size + 1, 0, none⟩) 1 [(⟨#[112]⟩, -5)]) from ⟨HQ4.out.1.below hb4, HQ4.out.2.below hb4⟩)
  clear HQ4 HG4 hb4 d4
  have HQ4 := HR
  clear HR
  go_wp2_with fail
  refine (grid_any _).mono ?_
  rintro e x5 ⟨wa, pa, ma, rfl, hG5, hg5⟩
  have d5 := bt c4 hg5 (Nat.le_refl _)
  have HQ5 := Lib.hid (show PfAt x5 (pfl (some ⟨w.heap.size, 0, none⟩) 1 [(⟨#[112]⟩, 5)]) ∧ PfAt x5 (pfl (some ⟨w.heap.size + 1, 0, none⟩) 1 [(⟨#[112]⟩, -5)]) from ⟨(HQ4.out).1.below hg5, (HQ4.out).2.below hg5⟩)
  have HG5 := Lib.hid hG5
  clear hG5 hg5 c4 HQ4
  go_wp2_with fail
  refine (ex_loss2 wa pa ma _ _ _ HG5.out HQ5.out.2).mono ?_
  rintro e y5 ⟨rfl, hb5⟩
  have c5 := bt d5 hb5 (Nat.le_refl _)
  have HR := Lib.hid (show PfAt y5 (pfl (some ⟨w.heap.size, 0, none⟩) 1 [(⟨#[112]⟩, 5)]) ∧ PfAt y5 (pfl (some ⟨w.heap.size + 1, 0, none⟩) 1 [(⟨#[112]⟩, -5)]) from ⟨HQ5.out.1.below hb5, HQ5.out.2.below hb5⟩)
  clear HQ5 HG5 hb5 d5
  have HQ5 := HR
  clear HR
  go_wp2
  go_ret
  exact ⟨rfl, c5⟩
end Go.Proofs.Ytmljjofpbonplaa.Mg
