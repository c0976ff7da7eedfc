/-
  The walk of the law MarginMatches.
-/
import Derived.Test.YtmljjofpbonplaaMg30
import Derived.Test.YtmljjofpbonplaaMg28
namespace Go.Proofs.Ytmljjofpbonplaa.Mg
open Go.RowKit Go.Proofs.Ytmljjofpbonplaa Go.Proofs.Ytmljjofpbonplaa.Nm Go.Proofs.Ytmljjofpbonplaa.Ls

set_option maxRecDepth 100000 in
set_option maxHeartbeats 8000000 in
theorem matches_walk (g : Gr) {w : World} (hG : GrAt w g) (a : Option Addr) (c : Nat) (xs : PL) (hp : PLok xs) (hA : AtL w 2 pc a xs) (s : Int) :
    Calls Try.prog 3 #[.agg #[.slice g.wa g.nw g.wc, .slice g.pa g.np g.pc], .slice a xs.length c, .int .i64 s] w fun e w' => e = .returned (.bool true) ∧ Below w.heap.size w w' := by
  have hx0 := blk_new w (.cells #[.slice g.wa g.nw g.wc, .slice g.pa g.np g.pc] 25)
  have hbo : Below w.heap.size w (w.alloc (.cells #[.slice g.wa g.nw g.wc, .slice g.pa g.np g.pc] 25)) := (Below.refl _ _).alloc (Nat.le_refl _) _
  obtain ⟨GA, hga⟩ : ∃ x, x = g.wa := ⟨_, rfl⟩
  obtain ⟨GP, hgp⟩ : ∃ x, x = g.pa := ⟨_, rfl⟩
  have HGR := Lib.hid (fun wo h => great_any g a xs.length c wo (hG.below h) hp.n)
  have HTW := Lib.hid (fun wo h h6 => refTwin_any g wo (hG.below h) h6)
  have HGW := Lib.hid hG
  have HAT := Lib.hid hA
  have HOK := Lib.hid hp
  have hxn := hp.n
  unfold maxLen at hxn
  have HGA := Lib.hid hga
  have HGP := Lib.hid hgp
  rw [← hga, ← hgp] at HGR HTW hx0 hbo ⊢
  clear hG hp hA hga hgp
  go_enter Try.func3, Try.ntmps3
  go_wp2_with fail
  generalize w.alloc _ = wo at hx0 hbo ⊢
  refine (alive_any _).mono ?_
  rintro e w1 ⟨rfl, hb1⟩
  have c1 := bt hbo hb1 (Nat.le_refl _)
  have HX1 := Lib.hid (blk_keep hx0 hb1)
  clear hx0 hbo hb1
  have x0 : w1.cell? ⟨w.heap.size, 0, none⟩ = some (.slice GA g.nw g.wc) := cell_of HX1.out 0 _ rfl
  have x1 : w1.cell? ⟨w.heap.size, 1, none⟩ = some (.slice GP g.np g.pc) := cell_of HX1.out 1 _ rfl
  go_wp2_with fail
  refine (HGR.out _ c1).mono ?_
  rintro e w2 ⟨rfl, hb2⟩
  have c2 := bt c1 hb2 (Nat.le_refl _)
  have HX2 := Lib.hid (blk_keep HX1.out hb2)
  clear HX1 c1 x0 x1 hb2
  have x0 : w2.cell? ⟨w.heap.size, 0, none⟩ = some (.slice GA g.nw g.wc) := cell_of HX2.out 0 _ rfl
  have x1 : w2.cell? ⟨w.heap.size, 1, none⟩ = some (.slice GP g.np g.pc) := cell_of HX2.out 1 _ rfl
  rcases hb (greatB g || decide (40 < xs.length)) with hg | hg
  · rw [hg]
    clear hg
    go_wp2
    go_ret
    exact ⟨rfl, c2⟩
  have h40 : xs.length ≤ 40 := by rw [Bool.or_eq_false_iff, decide_eq_false_iff_not] at hg; omega
  have H60 := Lib.hid (greatB_no (Bool.or_eq_false_iff.1 hg).1)
  rw [hg]
  clear hg HGR
  go_wp2_with fail
  refine (HTW.out _ c2 H60.out).mono ?_
  rintro e w3 ⟨wa, pa, wc, qc, ps, rfl, ho1, ho2, hco, hb3⟩
  have c3 := bt c2 hb3 (Nat.le_refl _)
  have HX3 := Lib.hid (blk_keep HX2.out hb3)
  have HT3 := Lib.hid (twin_at (wc := wc) (pc := qc) HGW.out (ho1.sl ic_len).1 (ho2.sl pdc_len).1 hco)
  clear HX2 x0 x1 hb3 ho1 ho2 hco HTW H60 c2
  have C3 := Lib.hid c3
  clear c3
  have hs3 : w.heap.size < w3.heap.size := blk_lt HX3.out
  go_wp2_with (at_builtin; refine wpList_append_LN (w3.alloc (.cells #[] 51)) (P := Try.prog) (α := ByteArray × Int) rfl _ _ _ rfl 51 (.agg #[.string ⟨#[]⟩, .int .i64 0]) 2 24 Try.underlying26 (by kernel_rfl) rfl (by decide) w3.heap.size pc pc_len pc_one (.slice (some ⟨w3.heap.size, 0, none⟩) 0 0) [] xs a c rfl xs.length rfl rfl (OwnL.empty (blk_new w3 (.cells #[] 51)) (Nat.le_refl _)) ((HAT.out.below C3.out).below ((Below.refl _ _).alloc (Nat.le_refl _) _)) (by simp <;> unfold maxLen <;> omega) (by simp <;> omega) (by simp) ?_; intro a3 c3 w4 ho4 hg4)
  have hb4 : Below w3.heap.size w3 w4 := ((Below.refl _ _).alloc (Nat.le_refl _) (.cells #[] 51)).grown hg4 (by simp) (fun k hk => by simp [Value.ownBlock] at hk; omega)
  have HWv := Lib.hid (bt C3.out hb4 (Nat.le_refl _))
  have HX4 := Lib.hid (blk_keep HX3.out hb4)
  have HT4 := Lib.hid (HT3.out.below hb4)
  have ha4 := (ho4.sl pc_len).1
  rw [List.nil_append] at ha4
  have HA4 := Lib.hid ha4
  have hs4 : w.heap.size < w4.heap.size := blk_lt HX4.out
  have hbv : Below w4.heap.size w4 (w4.alloc (.cells #[.slice wa g.nw wc, .slice pa g.np qc] 25)) := (Below.refl _ _).alloc (Nat.le_refl _) _
  have HO5 := Lib.hid (blk_new w4 (.cells #[.slice wa g.nw wc, .slice pa g.np qc] 25))
  have HX5 := Lib.hid (blk_past w4 (.cells #[.slice wa g.nw wc, .slice pa g.np qc] 25) HX4.out)
  have HT5 := Lib.hid (HT4.out.below hbv)
  have HA5 := Lib.hid (AtL.below HA4.out hbv)
  have HW5 := Lib.hid (bt HWv.out hbv (Nat.le_refl _))
  have HG5 := Lib.hid (HGW.out.below HW5.out)
  have HL5 := Lib.hid (HAT.out.below HW5.out)
  clear ho4 hg4 hb4 hbv ha4 HWv HX4 HT4 HA4 HX3 HT3 C3 hs3 HGW HAT
  generalize w4.alloc _ = v at HO5 HX5 HT5 HA5 HW5 HG5 HL5 ⊢
  generalize w4.heap.size = N at hs4 HO5 ⊢
  have HM5 := Lib.hid (pfl_at (c := c3) HOK.out HA5.out)
  have HP5 := Lib.hid (pfl_at (c := c) HOK.out HL5.out)
  have hcv : Below v.heap.size v v := Below.refl _ _
  have HB := Lib.hid (show ∀ wx, Below v.heap.size v wx → wx.cell? ⟨w.heap.size, 0, none⟩ = some (.slice GA g.nw g.wc) ∧ wx.cell? ⟨w.heap.size, 1, none⟩ = some (.slice GP g.np g.pc) ∧ wx.cell? ⟨N, 0, none⟩ = some (.slice wa g.nw wc) ∧ wx.cell? ⟨N, 1, none⟩ = some (.slice pa g.np qc) from
    fun wx h => ⟨cell_of (blk_keep HX5.out h) 0 _ rfl, cell_of (blk_keep HX5.out h) 1 _ rfl, cell_of (blk_keep HO5.out h) 0 _ rfl, cell_of (blk_keep HO5.out h) 1 _ rfl⟩)
  obtain ⟨V1, hV1⟩ : ∃ x, x = lossV g (pfl a c xs) s := ⟨_, rfl⟩
  obtain ⟨E1, hE1⟩ : ∃ x, x = lossE g (pfl a c xs) s := ⟨_, rfl⟩
  obtain ⟨V2, hV2⟩ : ∃ x, x = wBase g (pfl a c xs) := ⟨_, rfl⟩
  obtain ⟨V3, hV3⟩ : ∃ x, x = wAt g (pfl a c xs) := ⟨_, rfl⟩
  obtain ⟨V4, hV4⟩ : ∃ x, x = addV g (pfl a c xs) := ⟨_, rfl⟩
  obtain ⟨V5, hV5⟩ : ∃ x, x = margV g (pfl a c xs) := ⟨_, rfl⟩
  obtain ⟨E2, hE2⟩ : ∃ x, x = errV (fit g (pfl a c xs)) := ⟨_, rfl⟩
  obtain ⟨E3, hE3⟩ : ∃ x, x = errV (gridB g.W g.nw g.P g.np) := ⟨_, rfl⟩
  have QLoss := Lib.hid (show ∀ wx, Below v.heap.size v wx → Calls Try.prog 14 #[.agg #[.slice wa g.nw wc, .slice pa g.np qc], .slice a3 xs.length c3, .int .i64 s] wx fun e w' => e = .returned (.tuple #[.int .i64 V1, .int .i64 E1]) ∧ Below wx.heap.size wx w' from fun wx h => by rw [hV1, hE1, ← (moved_lossV g (pfl a c xs) wa wc pa qc (fun i => (ps.getD i pd0).a) (fun i => (ps.getD i pd0).cap) a3 c3 s).1, ← (moved_lossV g (pfl a c xs) wa wc pa qc (fun i => (ps.getD i pd0).a) (fun i => (ps.getD i pd0).cap) a3 c3 s).2]; exact loss_any (g.twin wa wc pa qc ps) (pfl a3 c3 xs) s wx (HT5.out.below h) (HM5.out.below h))
  have RLoss := Lib.hid (show ∀ wx, Below v.heap.size v wx → Calls Try.prog 15 #[.agg #[.slice GA g.nw g.wc, .slice GP g.np g.pc], .slice a xs.length c, .int .i64 s] wx fun e w' => e = .returned (.tuple #[.int .i64 V1, .int .i64 E1]) ∧ Below wx.heap.size wx w' from fun wx h => by rw [hV1, hE1]; rw [HGA.out, HGP.out]; exact refLoss_any g (pfl a c xs) s wx (HG5.out.below h) (HP5.out.below h))
  have QBase := Lib.hid (show ∀ wx, Below v.heap.size v wx → Calls Try.prog 16 #[.agg #[.slice wa g.nw wc, .slice pa g.np qc], .slice a3 xs.length c3] wx fun e w' => e = .returned (.tuple #[.int .i64 V2, .int .i64 E2]) ∧ Below wx.heap.size wx w' from fun wx h => by rw [hV2, hE2, ← moved_wBase g (pfl a c xs) wa wc pa qc (fun i => (ps.getD i pd0).a) (fun i => (ps.getD i pd0).cap) a3 c3]; exact base_any (g.twin wa wc pa qc ps) (pfl a3 c3 xs) wx (HT5.out.below h) (HM5.out.below h))
  have RBase := Lib.hid (show ∀ wx, Below v.heap.size v wx → Calls Try.prog 17 #[.agg #[.slice GA g.nw g.wc, .slice GP g.np g.pc], .slice a xs.length c] wx fun e w' => e = .returned (.tuple #[.int .i64 V2, .int .i64 E2]) ∧ Below wx.heap.size wx w' from fun wx h => by rw [hV2, hE2]; rw [HGA.out, HGP.out]; exact refBase_any g (pfl a c xs) wx (HG5.out.below h) (HP5.out.below h))
  have QWorst := Lib.hid (show ∀ wx, Below v.heap.size v wx → Calls Try.prog 18 #[.agg #[.slice wa g.nw wc, .slice pa g.np qc], .slice a3 xs.length c3] wx fun e w' => e = .returned (.tuple #[.int .i64 V3, .int .i64 E2]) ∧ Below wx.heap.size wx w' from fun wx h => by rw [hV3, hE2, ← moved_wAt g (pfl a c xs) wa wc pa qc (fun i => (ps.getD i pd0).a) (fun i => (ps.getD i pd0).cap) a3 c3]; exact worstAt_any (g.twin wa wc pa qc ps) (pfl a3 c3 xs) wx (HT5.out.below h) (HM5.out.below h))
  have RWorst := Lib.hid (show ∀ wx, Below v.heap.size v wx → Calls Try.prog 19 #[.agg #[.slice GA g.nw g.wc, .slice GP g.np g.pc], .slice a xs.length c] wx fun e w' => e = .returned (.tuple #[.int .i64 V3, .int .i64 E2]) ∧ Below wx.heap.size wx w' from fun wx h => by rw [hV3, hE2]; rw [HGA.out, HGP.out]; exact refWorst_any g (pfl a c xs) wx (HG5.out.below h) (HP5.out.below h))
  have QAddOn := Lib.hid (show ∀ wx, Below v.heap.size v wx → Calls Try.prog 20 #[.agg #[.slice wa g.nw wc, .slice pa g.np qc], .slice a3 xs.length c3] wx fun e w' => e = .returned (.tuple #[.int .i64 V4, .int .i64 E2]) ∧ Below wx.heap.size wx w' from fun wx h => by rw [hV4, hE2, ← moved_addV g (pfl a c xs) wa wc pa qc (fun i => (ps.getD i pd0).a) (fun i => (ps.getD i pd0).cap) a3 c3]; exact addOn_any (g.twin wa wc pa qc ps) (pfl a3 c3 xs) wx (HT5.out.below h) (HM5.out.below h))
  have RAddOn := Lib.hid (show ∀ wx, Below v.heap.size v wx → Calls Try.prog 21 #[.agg #[.slice GA g.nw g.wc, .slice GP g.np g.pc], .slice a xs.length c] wx fun e w' => e = .returned (.tuple #[.int .i64 V4, .int .i64 E2]) ∧ Below wx.heap.size wx w' from fun wx h => by rw [hV4, hE2]; rw [HGA.out, HGP.out]; exact refAddOn_any g (pfl a c xs) wx (HG5.out.below h) (HP5.out.below h))
  have QMargin := Lib.hid (show ∀ wx, Below v.heap.size v wx → Calls Try.prog 22 #[.agg #[.slice wa g.nw wc, .slice pa g.np qc], .slice a3 xs.length c3] wx fun e w' => e = .returned (.tuple #[.int .i64 V5, .int .i64 E2]) ∧ Below wx.heap.size wx w' from fun wx h => by rw [hV5, hE2, ← moved_margV g (pfl a c xs) wa wc pa qc (fun i => (ps.getD i pd0).a) (fun i => (ps.getD i pd0).cap) a3 c3]; exact margin_any (g.twin wa wc pa qc ps) (pfl a3 c3 xs) wx (HT5.out.below h) (HM5.out.below h))
  have RMargin := Lib.hid (show ∀ wx, Below v.heap.size v wx → Calls Try.prog 23 #[.agg #[.slice GA g.nw g.wc, .slice GP g.np g.pc], .slice a xs.length c] wx fun e w' => e = .returned (.tuple #[.int .i64 V5, .int .i64 E2]) ∧ Below wx.heap.size wx w' from fun wx h => by rw [hV5, hE2]; rw [HGA.out, HGP.out]; exact refMargin_any g (pfl a c xs) wx (HG5.out.below h) (HP5.out.below h))
  have QCG := Lib.hid (show ∀ wx, Below v.heap.size v wx → Calls Try.prog 24 #[.agg #[.slice wa g.nw wc, .slice pa g.np qc]] wx fun e w' => e = .returned (.int .i64 E3) ∧ Below wx.heap.size wx w' from fun wx h => by rw [hE3]; exact ck_grid (g.twin wa wc pa qc ps) wx (HT5.out.below h) _ rfl)
  have RCG := Lib.hid (show ∀ wx, Below v.heap.size v wx → Calls Try.prog 25 #[.agg #[.slice GA g.nw g.wc, .slice GP g.np g.pc]] wx fun e w' => e = .returned (.int .i64 E3) ∧ Below wx.heap.size wx w' from fun wx h => by rw [hE3]; rw [HGA.out, HGP.out]; exact refCheckGrid_any g.wa g.pa g.nw g.wc g.np g.pc g.W g.P wx HG5.out.nw HG5.out.np HG5.out.pd (HG5.out.below h).ws (HG5.out.below h).ps)
  have QCK := Lib.hid (show ∀ wx, Below v.heap.size v wx → Calls Try.prog 26 #[.agg #[.slice wa g.nw wc, .slice pa g.np qc], .slice a3 xs.length c3] wx fun e w' => e = .returned (.int .i64 E2) ∧ Below wx.heap.size wx w' from fun wx h => by rw [hE2]; exact check_q (g.twin wa wc pa qc ps) (pfl a3 c3 xs) wx (HT5.out.below h) (HM5.out.below h) _ rfl)
  have RCK := Lib.hid (show ∀ wx, Below v.heap.size v wx → Calls Try.prog 27 #[.agg #[.slice GA g.nw g.wc, .slice GP g.np g.pc], .slice a xs.length c] wx fun e w' => e = .returned (.int .i64 E2) ∧ Below wx.heap.size wx w' from fun wx h => by rw [hE2]; rw [HGA.out, HGP.out]; exact refCheck_q g (pfl a c xs) wx (HG5.out.below h) (HP5.out.below h) _ rfl)
  have RSG := Lib.hid (show ∀ wx, Below v.heap.size v wx → Calls Try.prog 28 #[.agg #[.slice wa g.nw wc, .slice pa g.np qc], .agg #[.slice GA g.nw g.wc, .slice GP g.np g.pc]] wx fun e w' => e = .returned (.bool true) ∧ Below wx.heap.size wx w' from fun wx h => by rw [HGA.out, HGP.out]; exact refSameGrid_yes g wa wc pa qc ps wx (HG5.out.below h) (HT5.out.below h))
  have RSM := Lib.hid (show ∀ wx, Below v.heap.size v wx → Calls Try.prog 29 #[.slice a3 xs.length c3, .slice a xs.length c] wx fun e w' => e = .returned (.bool true) ∧ Below wx.heap.size wx w' from fun wx h => by have t := refSame_any a3 a c3 c xs xs wx HOK.out.n (HA5.out.below h) (HL5.out.below h); rw [decide_eq_true (p := xs = xs) rfl] at t; exact t)
  clear hV1 hE1 hV2 hV3 hV4 hV5 hE2 hE3 HX5 HO5 HT5 HA5 HG5 HL5 HM5 HP5 HOK HGA HGP hs4
  refine (QLoss.out _ hcv).mono ?_
  rintro e w10 ⟨rfl, hb⟩
  have k10 := bt hcv hb (Nat.le_refl _)
  clear hb
  obtain ⟨x0, x1, y0, y1⟩ := HB.out _ k10
  go_wp2_with fail
  refine (RLoss.out _ k10).mono ?_
  rintro e w11 ⟨rfl, hb⟩
  have k11 := bt k10 hb (Nat.le_refl _)
  clear hb k10 x0 x1 y0 y1
  obtain ⟨x0, x1, y0, y1⟩ := HB.out _ k11
  go_wp2_with fail
  refine (QBase.out _ k11).mono ?_
  rintro e w12 ⟨rfl, hb⟩
  have k12 := bt k11 hb (Nat.le_refl _)
  clear hb k11 x0 x1 y0 y1
  obtain ⟨x0, x1, y0, y1⟩ := HB.out _ k12
  go_wp2_with fail
  refine (RBase.out _ k12).mono ?_
  rintro e w13 ⟨rfl, hb⟩
  have k13 := bt k12 hb (Nat.le_refl _)
  clear hb k12 x0 x1 y0 y1
  obtain ⟨x0, x1, y0, y1⟩ := HB.out _ k13
  go_wp2_with fail
  refine (QWorst.out _ k13).mono ?_
  rintro e w14 ⟨rfl, hb⟩
  have k14 := bt k13 hb (Nat.le_refl _)
  clear hb k13 x0 x1 y0 y1
  obtain ⟨x0, x1, y0, y1⟩ := HB.out _ k14
  go_wp2_with fail
  refine (RWorst.out _ k14).mono ?_
  rintro e w15 ⟨rfl, hb⟩
  have k15 := bt k14 hb (Nat.le_refl _)
  clear hb k14 x0 x1 y0 y1
  obtain ⟨x0, x1, y0, y1⟩ := HB.out _ k15
  go_wp2_with fail
  refine (QAddOn.out _ k15).mono ?_
  rintro e w16 ⟨rfl, hb⟩
  have k16 := bt k15 hb (Nat.le_refl _)
  clear hb k15 x0 x1 y0 y1
  obtain ⟨x0, x1, y0, y1⟩ := HB.out _ k16
  go_wp2_with fail
  refine (RAddOn.out _ k16).mono ?_
  rintro e w17 ⟨rfl, hb⟩
  have k17 := bt k16 hb (Nat.le_refl _)
  clear hb k16 x0 x1 y0 y1
  obtain ⟨x0, x1, y0, y1⟩ := HB.out _ k17
  go_wp2_with fail
  refine (QMargin.out _ k17).mono ?_
  rintro e w18 ⟨rfl, hb⟩
  have k18 := bt k17 hb (Nat.le_refl _)
  clear hb k17 x0 x1 y0 y1
  obtain ⟨x0, x1, y0, y1⟩ := HB.out _ k18
  go_wp2_with fail
  refine (RMargin.out _ k18).mono ?_
  rintro e w19 ⟨rfl, hb⟩
  have k19 := bt k18 hb (Nat.le_refl _)
  clear hb k18 x0 x1 y0 y1
  obtain ⟨x0, x1, y0, y1⟩ := HB.out _ k19
  go_wp2_with fail
  have kd := k19.drew
  go_region_held3 (fun w' => w'.cell? ⟨w.heap.size, 0, none⟩ = some (.slice GA g.nw g.wc) ∧ w'.cell? ⟨w.heap.size, 1, none⟩ = some (.slice GP g.np g.pc) ∧ w'.cell? ⟨N, 0, none⟩ = some (.slice wa g.nw wc) ∧ w'.cell? ⟨N, 1, none⟩ = some (.slice pa g.np qc))
    (first | exact HB.out _ (by assumption) | exact HB.out _ (Below.drew (by assumption)) | go_keep)
    (first | (go_at_call 24; refine (QCG.out _ (by first | assumption | exact Below.drew (by assumption))).mono ?_; rintro e w31 ⟨rfl, hb31⟩; have k31 : Below v.heap.size v w31 := bt (by first | assumption | exact Below.drew (by assumption)) hb31 (Nat.le_refl _)) | (go_at_call 25; refine (RCG.out _ (by first | assumption | exact Below.drew (by assumption))).mono ?_; rintro e w32 ⟨rfl, hb32⟩; have k32 : Below v.heap.size v w32 := bt (by first | assumption | exact Below.drew (by assumption)) hb32 (Nat.le_refl _)) | (go_at_call 26; refine (QCK.out _ (by first | assumption | exact Below.drew (by assumption))).mono ?_; rintro e w33 ⟨rfl, hb33⟩; have k33 : Below v.heap.size v w33 := bt (by first | assumption | exact Below.drew (by assumption)) hb33 (Nat.le_refl _)) | (go_at_call 27; refine (RCK.out _ (by first | assumption | exact Below.drew (by assumption))).mono ?_; rintro e w34 ⟨rfl, hb34⟩; have k34 : Below v.heap.size v w34 := bt (by first | assumption | exact Below.drew (by assumption)) hb34 (Nat.le_refl _)))
  all_goals
    clear hb31 hb32 hb33 k31 k32 k33
    have k35 := k34
    clear k34 x0 x1 y0 y1 hb34
    obtain ⟨x0, x1, y0, y1⟩ := HB.out _ k35
    go_wp2_with fail
    refine (RSG.out _ k35).mono ?_
    rintro e w36 ⟨rfl, hb⟩
    have k36 := bt k35 hb (Nat.le_refl _)
    clear hb k35 x0 x1 y0 y1
    go_wp2_with fail
    refine (RSM.out _ k36).mono ?_
    rintro e w37 ⟨rfl, hb⟩
    have k37 := bt k36 hb (Nat.le_refl _)
    go_wp2_with fail
    go_ret
    exact ⟨rfl, bt HW5.out k37 (Nat.le_refl _)⟩
end Go.Proofs.Ytmljjofpbonplaa.Mg
