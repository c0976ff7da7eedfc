/-
  The walk of the law MarginScenario.
-/
import Derived.Test.YtmljjofpbonplaaMg33
import Derived.Test.YtmljjofpbonplaaMg28
namespace Go.Proofs.Ytmljjofpbonplaa.Mg
open Go.RowKit Go.Proofs.Ytmljjofpbonplaa Go.Proofs.Ytmljjofpbonplaa.Nm Go.Proofs.Ytmljjofpbonplaa.Ls

set_option maxRecDepth 100000 in
set_option maxHeartbeats 8000000 in
theorem scenario_walk (g : Gr) {w : World} (hG : GrAt w g) (a : Option Addr) (c : Nat) (xs : PL) (hp : PLok xs) (hA : AtL w 2 pc a xs) (s : Int) :
    Calls Try.prog 5 #[.agg #[.slice g.wa g.nw g.wc, .slice g.pa g.np g.pc], .slice a xs.length c, .int .i64 s] w fun e w' => e = .returned (.bool true) ∧ Below w.heap.size w w' := by
  have hx0 := blk_new w (.cells #[.slice g.wa g.nw g.wc, .slice g.pa g.np g.pc] 25)
  have hbo : Below w.heap.size w (w.alloc (.cells #[.slice g.wa g.nw g.wc, .slice g.pa g.np g.pc] 25)) := (Below.refl _ _).alloc (Nat.le_refl _) _
  obtain ⟨GA, hga⟩ : ∃ x, x = g.wa := ⟨_, rfl⟩
  obtain ⟨GP, hgp⟩ : ∃ x, x = g.pa := ⟨_, rfl⟩
  have hpf := pfl_at (c := c) hp hA
  have HGR := Lib.hid (fun wo h => great_any g a xs.length c wo (hG.below h) hp.n)
  have HBA := Lib.hid (fun wo h => base_any g (pfl a c xs) wo (hG.below h) (hpf.below h))
  have HWO := Lib.hid (fun wo h => worstAt_any g (pfl a c xs) wo (hG.below h) (hpf.below h))
  have HPT := Lib.hid (fun f t wo h h6 hl hft ht => part_any g f t wo (hG.below h) h6 hl hft ht)
  have HPB := Lib.hid (fun (wo : World) (h : Below w.heap.size w wo) (p : Gr) (hP : GrAt wo p) => base_any p (pfl a c xs) wo hP (hpf.below h))
  have hnw := hG.nw
  unfold maxLen at hnw
  rw [← hga, ← hgp] at HGR HBA HWO HPT hx0 hbo ⊢
  clear hG hp hA hga hgp hpf
  go_enter Try.func5, Try.ntmps5
  go_wp2_with fail
  generalize w.alloc _ = wo at hx0 hbo ⊢
  refine (alive_any _).mono ?_
  rintro e w1 ⟨rfl, hb1⟩
  have c1 := bt hbo hb1 (Nat.le_refl _)
  have HX1 := Lib.hid (blk_keep hx0 hb1)
  clear hx0 hbo hb1
  have x0 : w1.cell? ⟨w.heap.size, 0, none⟩ = some (.slice GA g.nw g.wc) := cell_of HX1.out 0 _ rfl
  have x1 : w1.cell? ⟨w.heap.size, 1, none⟩ = some (.slice GP g.np g.pc) := cell_of HX1.out 1 _ rfl
  go_wp2_with fail
  refine (HGR.out _ c1).mono ?_
  rintro e w2 ⟨rfl, hb2⟩
  have c2 := bt c1 hb2 (Nat.le_refl _)
  have HX2 := Lib.hid (blk_keep HX1.out hb2)
  clear HX1 c1 x0 x1 hb2
  have x0 : w2.cell? ⟨w.heap.size, 0, none⟩ = some (.slice GA g.nw g.wc) := cell_of HX2.out 0 _ rfl
  have x1 : w2.cell? ⟨w.heap.size, 1, none⟩ = some (.slice GP g.np g.pc) := cell_of HX2.out 1 _ rfl
  rcases hb (greatB g || decide (40 < xs.length)) with hg | hg
  · rw [hg]
    clear hg
    go_wp2
    go_ret
    exact ⟨rfl, c2⟩
  have H60 := Lib.hid (greatB_no (Bool.or_eq_false_iff.1 hg).1)
  rw [hg]
  clear hg HGR
  by_cases hm1 : s < 1
  · go_wp2
    go_ret
    exact ⟨rfl, c2⟩
  by_cases hm2 : (g.nw : Int) < s
  · go_wp2
    go_ret
    exact ⟨rfl, c2⟩
  obtain ⟨M, rfl⟩ : ∃ M : Nat, s = (M : Int) := ⟨s.toNat, by omega⟩
  have hm3 : 0 < M := by omega
  have hm4 : M ≤ g.nw := by omega
  go_wp2_with fail
  refine (HBA.out _ c2).mono ?_
  rintro e w3 ⟨rfl, hb3⟩
  have c3 := bt c2 hb3 (Nat.le_refl _)
  have HX3 := Lib.hid (blk_keep HX2.out hb3)
  clear HX2 c2 x0 x1 hb3
  have x0 : w3.cell? ⟨w.heap.size, 0, none⟩ = some (.slice GA g.nw g.wc) := cell_of HX3.out 0 _ rfl
  have x1 : w3.cell? ⟨w.heap.size, 1, none⟩ = some (.slice GP g.np g.pc) := cell_of HX3.out 1 _ rfl
  go_wp2_with fail
  refine (HWO.out _ c3).mono ?_
  rintro e w4 ⟨rfl, hb4⟩
  have c4 := bt c3 hb4 (Nat.le_refl _)
  have HX4 := Lib.hid (blk_keep HX3.out hb4)
  clear HX3 c3 x0 x1 hb4
  have x0 : w4.cell? ⟨w.heap.size, 0, none⟩ = some (.slice GA g.nw g.wc) := cell_of HX4.out 0 _ rfl
  have x1 : w4.cell? ⟨w.heap.size, 1, none⟩ = some (.slice GP g.np g.pc) := cell_of HX4.out 1 _ rfl
  rcases (hb (fit g (pfl a c xs))).symm with hf | hf
  · rw [hf]
    have hev : errV false = 8 := rfl
    rw [hev]
    clear hev
    go_wp2_with fail
    go_ret
    exact ⟨rfl, c4⟩
  rw [hf]
  have hev : errV true = 0 := rfl
  rw [hev]
  have HL := Lib.hid (fun i hi => (fit_ok hf).g.len i hi)
  have HF := Lib.hid hf
  have HPF := Lib.hid (fun wa wc pa pc A C f t hft ht => part_fit hf wa wc pa pc A C f t hft ht)
  have hl1 := fun wa wc pa pc A C => part_le hf wa wc pa pc A C 0 M hm3 hm4
  have HW1 := Lib.hid hl1
  have HPO := Lib.hid (fun wa wc pa pc A C S hS h0 h1 => part_one (S := S) hf wa wc pa pc A C hS h0 h1)
  have HWA := Lib.hid (worst_at hf)
  clear hl1 hev
  have hbd := wBase_bd g (pfl a c xs)
  generalize hVB : wBase g (pfl a c xs) = VB at *
  generalize hVW : wAt g (pfl a c xs) = VW at *
  have hvw : -1 ≤ VW ∧ VW < g.nw := by rcases HWA.out with ⟨_, e⟩ | ⟨S, h1, e, _⟩ <;> omega
  have q1 : ¬ VW < -1 := by omega
  have q2 : ¬ (g.nw : Int) ≤ VW := by omega
  clear hf
  have hp1 := HPT.out 0 M w4 c4 H60.out HL.out hm3 hm4
  have HP1 := Lib.hid hp1
  clear hp1
  go_wp2_with fail
  refine HP1.out.mono ?_
  rintro e w5 ⟨wa, pa, wc, qc, A, C, rfl, hg5, hb5⟩
  have c5 := bt c4 hb5 (Nat.le_refl _)
  have HX5 := Lib.hid (blk_keep HX4.out hb5)
  have HG5 := Lib.hid hg5
  clear HX4 c4 x0 x1 hb5 hg5 HP1
  have hba : Below w5.heap.size w5 (w5.alloc (.cells #[.slice wa (M - 0) wc, .slice pa g.np qc] 25)) := (Below.refl _ _).alloc (Nat.le_refl _) _
  have c6 := bt c5 hba (Nat.le_refl _)
  have HX6 := Lib.hid (blk_keep HX5.out hba)
  have HG6 := Lib.hid (HG5.out.below hba)
  have hb1 := HPB.out _ c6 _ HG6.out
  rw [HPF.out wa wc pa qc A C 0 M hm3 hm4] at hb1
  have HB1 := Lib.hid hb1
  clear hb1 hba
  go_wp2_with fail
  refine HB1.out.mono ?_
  rintro e w7 ⟨rfl, hb7⟩
  have c7 := bt c6 hb7 (Nat.le_refl _)
  have HX7 := Lib.hid (blk_keep HX6.out hb7)
  have hle := HW1.out wa wc pa qc A C
  generalize wBase (g.part wa wc pa qc A C 0 M) (pfl a c xs) = PB at hle ⊢
  have hev : errV true = 0 := rfl
  rw [hev]
  clear hev HB1 hb7 HX6 HG6 c6 c5 HX5 HG5
  have q3 : ¬ VB < PB := by omega
  have x0 : w7.cell? ⟨w.heap.size, 0, none⟩ = some (.slice GA g.nw g.wc) := cell_of HX7.out 0 _ rfl
  have x1 : w7.cell? ⟨w.heap.size, 1, none⟩ = some (.slice GP g.np g.pc) := cell_of HX7.out 1 _ rfl
  rcases HWA.out with ⟨e1, e2⟩ | ⟨S, h1, e2, h3, h4⟩
  · subst e1
    subst e2
    go_wp2_with fail
    go_ret
    exact ⟨rfl, c7⟩
  · subst e2
    have hp2 := HPT.out S (S + 1) w7 c7 H60.out HL.out (by omega) (by omega)
    rw [show (((S + 1 : Nat) : Int)) = (S : Int) + 1 from by omega] at hp2
    have HP2 := Lib.hid hp2
    have n1 : IntKind.i64.wrap ((S : Int) + 1) = (S : Int) + 1 := IntWalk.i64_in _ (by omega)
    have n2 : ¬ (S : Int) < 0 := by omega
    have HPO2 := Lib.hid (fun wa wc pa pc A C => HPO.out wa wc pa pc A C S h1 h3 h4)
    clear hp2 h4
    go_wp2_with fail
    refine HP2.out.mono ?_
    rintro e w8 ⟨wb, pb, wd, qd, A2, C2, rfl, hg8, hb8⟩
    have c8 := bt c7 hb8 (Nat.le_refl _)
    have HX8 := Lib.hid (blk_keep HX7.out hb8)
    have HG8 := Lib.hid hg8
    have hba : Below w8.heap.size w8 (w8.alloc (.cells #[.slice wb (S + 1 - S) wd, .slice pb g.np qd] 25)) := (Below.refl _ _).alloc (Nat.le_refl _) _
    have c9 := bt c8 hba (Nat.le_refl _)
    have HG9 := Lib.hid (HG8.out.below hba)
    have hb1 := HPB.out _ c9 _ HG9.out
    rw [HPF.out wb wd pb qd A2 C2 S (S + 1) (by omega) (by omega), HPO2.out wb wd pb qd A2 C2] at hb1
    have HB9 := Lib.hid hb1
    clear hb1 hba hg8 hb8 x0 x1 HX7
    have es : S + 1 - S = 1 := by omega
    rw [es] at HB9 c9
    rw [es]
    have hpn : (g.part wb wd pb qd A2 C2 S (S + 1)).nw = 1 := es
    rw [hpn] at HB9
    go_wp2_with fail
    refine HB9.out.mono ?_
    rintro e w10 ⟨rfl, hb10⟩
    have c10 := bt c9 hb10 (Nat.le_refl _)
    have hev : errV true = 0 := rfl
    rw [hev]
    go_wp2_with fail
    go_ret
    exact ⟨rfl, c10⟩
end Go.Proofs.Ytmljjofpbonplaa.Mg
