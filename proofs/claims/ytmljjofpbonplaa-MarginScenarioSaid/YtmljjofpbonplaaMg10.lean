/-
  Margin: bounds; the walk of margin.Margin.
-/
import Derived.Test.YtmljjofpbonplaaMg9
namespace Go.Proofs.Ytmljjofpbonplaa.Mg
open Go.RowKit Go.Proofs.Ytmljjofpbonplaa Go.Proofs.Ytmljjofpbonplaa.Nm

theorem cnt_nonneg (x y : Int) (hy : 0 < y) : 0 ≤ cnt x y := by
  unfold cnt
  split
  · omega
  · have := Int.mul_pos (a := x) (b := y) (by omega) hy
    omega
theorem cnt_le (x y B : Int) (hy2 : y ≤ 1000) (hx : x ≤ B) (hB : 0 ≤ B) : cnt x y ≤ B := by
  unfold cnt
  split
  · exact hB
  · have h1 : x * y ≤ x * 1000 := Int.mul_le_mul_of_nonneg_left hy2 (by omega)
    omega
theorem bestUp_le (f : Nat → Int) (n : Nat) (B : Int) (hB : 0 ≤ B) (h : ∀ i, i < n → f i ≤ B) : (bestUp f n).2 ≤ B := by
  induction n with
  | zero => exact hB
  | succ n ih =>
    have h1 := ih (fun i hi => h i (by omega))
    have h2 := h n (by omega)
    rw [bestUp_max]
    omega
/-- the base's numbers, as the document says them -/
def ctD (g : Gr) (l : Pf) (s : Nat) : Int := cnt (loss g l s) (g.W s)
theorem best_doc {g : Gr} {l : Pf} (h : fit g l = true) : best g l = bestUp (ctD g l) g.nw :=
  bestUp_congr _ _ _ (fun i hi m hm => cntP_max _ _ _ (by have := (fit_ok h).g.ws i hi; omega) hm)
theorem loss_bd {g : Gr} {l : Pf} (h : fit g l = true) (s : Nat) (hs : s < g.nw) : -281474976710656 ≤ loss g l s ∧ loss g l s ≤ 281474976710656 := by
  have h1 := (fit_ok h).loss l.n s (Nat.le_refl _) hs
  have h2 := (fit_ok h).p.n32
  unfold loss
  omega
theorem ctD_bd {g : Gr} {l : Pf} (h : fit g l = true) (s : Nat) (hs : s < g.nw) : 0 ≤ ctD g l s ∧ ctD g l s ≤ 281474976710656 := by
  have h1 := (fit_ok h).g.ws s hs
  exact ⟨cnt_nonneg _ _ (by omega), cnt_le _ _ _ h1.2 (loss_bd h s hs).2 (by omega)⟩
theorem wBase_bd (g : Gr) (l : Pf) : 0 ≤ wBase g l ∧ wBase g l ≤ 281474976710656 := by
  unfold wBase
  by_cases h : fit g l = true
  · rw [if_pos h, best_doc h]
    exact ⟨bestUp_nonneg _ _, bestUp_le _ _ _ (by omega) (fun i hi => (ctD_bd h i hi).2)⟩
  · rw [if_neg h]
    omega
theorem addV_bd (g : Gr) (l : Pf) : 0 ≤ addV g l ∧ addV g l ≤ 281474976710656 := by
  unfold addV
  by_cases h : fit g l = true
  · rw [if_pos h]
    have h1 := (fit_ok h).add l.n (Nat.le_refl _)
    have h2 := (fit_ok h).p.n32
    omega
  · rw [if_neg h]
    omega
theorem fit_no {g : Gr} {l : Pf} (h : fit g l = false) : wBase g l = 0 ∧ addV g l = 0 ∧ wAt g l = 0 := by
  unfold wBase addV wAt
  rw [h]
  exact ⟨rfl, rfl, rfl⟩
def margV (g : Gr) (l : Pf) : Int := wBase g l + addV g l

set_option maxRecDepth 100000 in
set_option maxHeartbeats 1000000 in
theorem margin_any (g : Gr) (l : Pf) (w : World) (hG : GrAt w g) (hL : PfAt w l) :
    Calls Try.prog 22 #[.agg #[.slice g.wa g.nw g.wc, .slice g.pa g.np g.pc], .slice l.a l.n l.c] w fun e w' => e = .returned (.tuple #[.int .i64 (margV g l), .int .i64 (errV (fit g l))]) ∧ Below w.heap.size w w' := by
  have hx0 := blk_new w (.cells #[.slice g.wa g.nw g.wc, .slice g.pa g.np g.pc] 25)
  have hbo : Below w.heap.size w (w.alloc (.cells #[.slice g.wa g.nw g.wc, .slice g.pa g.np g.pc] 25)) := (Below.refl _ _).alloc (Nat.le_refl _) _
  have HG := Lib.hid hG
  have HL := Lib.hid hL
  have hB := wBase_bd g l
  have hA := addV_bd g l
  have HM := Lib.hid (show margV g l = wBase g l + addV g l from rfl)
  clear hG hL
  rcases hb (fit g l) with hf | hf
  · have HF := Lib.hid hf
    clear hf
    go_enter Try.func22, Try.ntmps22
    go_wp2_with fail
    generalize w.alloc _ = wo at hx0 hbo ⊢
    refine (base_any g l _ (HG.out.below hbo) (HL.out.below hbo)).mono ?_
    rintro e w1 ⟨rfl, hb1⟩
    have c1 := bt hbo hb1 (Nat.le_refl _)
    have HX1 := Lib.hid (blk_keep hx0 hb1)
    rw [HF.out]
    have hev : errV true = 0 := rfl
    rw [hev]
    clear hev hx0 hbo hb1
    have x0 : w1.cell? ⟨w.heap.size, 0, none⟩ = some (.slice g.wa g.nw g.wc) := cell_of HX1.out 0 _ rfl
    have x1 : w1.cell? ⟨w.heap.size, 1, none⟩ = some (.slice g.pa g.np g.pc) := cell_of HX1.out 1 _ rfl
    go_wp2_with fail
    refine (addOn_any g l _ (HG.out.below c1) (HL.out.below c1)).mono ?_
    rintro e w2 ⟨rfl, hb2⟩
    have c2 := bt c1 hb2 (Nat.le_refl _)
    rw [HF.out]
    have hev : errV true = 0 := rfl
    rw [hev]
    clear hev hb2 c1 x0 x1 HX1
    have n1 : IntKind.i64.wrap (wBase g l + addV g l) = wBase g l + addV g l := IntWalk.i64_in _ (by omega)
    go_wp2
    go_ret2
    rw [HM.out, HF.out]
    exact ⟨rfl, c2⟩
  · have HF := Lib.hid hf
    have HN := Lib.hid (fit_no hf)
    clear hf
    go_enter Try.func22, Try.ntmps22
    go_wp2_with fail
    generalize w.alloc _ = wo at hx0 hbo ⊢
    refine (base_any g l _ (HG.out.below hbo) (HL.out.below hbo)).mono ?_
    rintro e w1 ⟨rfl, hb1⟩
    have c1 := bt hbo hb1 (Nat.le_refl _)
    rw [HF.out]
    have hev : errV false = 8 := rfl
    rw [hev]
    clear hev hx0 hbo hb1
    go_wp2
    go_ret2
    rw [HM.out, HN.out.1, HN.out.2.1, HF.out]
    exact ⟨rfl, c1⟩
end Go.Proofs.Ytmljjofpbonplaa.Mg
