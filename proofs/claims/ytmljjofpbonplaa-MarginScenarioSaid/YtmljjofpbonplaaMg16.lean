/-
  Margin's reference: the walks of Worst, AddOn, Margin.
-/
import Derived.Test.YtmljjofpbonplaaMg15
import Derived.Test.YtmljjofpbonplaaMgP
namespace Go.Proofs.Ytmljjofpbonplaa.Mg
open Go.RowKit Go.Proofs.Ytmljjofpbonplaa Go.Proofs.Ytmljjofpbonplaa.Nm

set_option maxRecDepth 100000 in
set_option maxHeartbeats 2000000 in
theorem refWorst_any (g : Gr) (l : Pf) (w : World) (hG : GrAt w g) (hL : PfAt w l) :
    Calls Try.prog 19 #[.agg #[.slice g.wa g.nw g.wc, .slice g.pa g.np g.pc], .slice l.a l.n l.c] w fun e w' => e = .returned (.tuple #[.int .i64 (wAt g l), .int .i64 (errV (fit g l))]) ∧ Below w.heap.size w w' := by
  have HG := Lib.hid hG
  have HL := Lib.hid hL
  have hx0 := blk_new w (.cells #[.slice g.wa g.nw g.wc, .slice g.pa g.np g.pc] 25)
  have hbo : Below w.heap.size w (w.alloc (.cells #[.slice g.wa g.nw g.wc, .slice g.pa g.np g.pc] 25)) := (Below.refl _ _).alloc (Nat.le_refl _) _
  obtain ⟨A, hwa⟩ : ∃ A, A = g.wa := ⟨_, rfl⟩
  have HIA := Lib.hid (show IntsAt w A g.nw g.W by rw [hwa]; exact hG.ws)
  have HBA := Lib.hid (fun wo h => refBase_any g l wo (hG.below h) (hL.below h))
  have HLL := Lib.hid (fun hf s hs wo h => refLoss_in g l s wo (hG.below h) (hL.below h) hf hs)
  rw [← hwa] at HBA HLL hx0 hbo ⊢
  clear hwa hG hL
  rcases hb (fit g l) with hf | hf
  · have HF := Lib.hid hf
    have HO := Lib.hid (fit_ok hf)
    have hnw : g.nw ≤ 50 := (fit_ok hf).g.w50
    have HBS := Lib.hid (show wBase g l = (bestUp (ctD g l) g.nw).2 ∧ wAt g l = (bestUp (ctD g l) g.nw).1 by unfold wBase wAt; rw [if_pos hf, if_pos hf, best_doc hf]; exact ⟨rfl, rfl⟩)
    have hwb := wBase_bd g l
    have HAT := Lib.hid (bestUp_at (ctD g l) g.nw)
    clear hf
    rcases HAT.out with ⟨z1, z2⟩ | ⟨S, z1, z2, z3, z4, z5⟩
    · have hz : (wBase g l == 0) = true := by rw [HBS.out.1, z1]; rfl
      have HZ := Lib.hid (show wAt g l = -1 by rw [HBS.out.2, z2])
      clear z1 z2
      go_enter Try.func19, Try.ntmps19
      go_wp2_with fail
      generalize w.alloc _ = wo at hx0 hbo ⊢
      refine (HBA.out _ hbo).mono ?_
      rintro e w1 ⟨rfl, hb1⟩
      have c1 := bt hbo hb1 (Nat.le_refl _)
      rw [HF.out]
      have hev : errV true = 0 := rfl
      rw [hev]
      clear hev hx0 hbo hb1
      go_wp2
      go_ret2
      rw [HZ.out, HF.out]
      exact ⟨rfl, c1⟩
    · have hz : (wBase g l == 0) = false := by rw [HBS.out.1, beq_eq_false_iff_ne]; omega
      have HZ := Lib.hid (show wAt g l = (S : Int) by rw [HBS.out.2, z2])
      have HS := Lib.hid (show ctD g l S = wBase g l ∧ ∀ i, i < S → ctD g l i < wBase g l by rw [HBS.out.1]; exact ⟨z3, z5⟩)
      clear z2 z3 z4 z5
      go_enter Try.func19, Try.ntmps19
      go_wp2_with fail
      generalize w.alloc _ = wo at hx0 hbo ⊢
      refine (HBA.out _ hbo).mono ?_
      rintro e w1 ⟨rfl, hb1⟩
      have c1 := bt hbo hb1 (Nat.le_refl _)
      have HX1 := Lib.hid (blk_keep hx0 hb1)
      rw [HF.out]
      have hev : errV true = 0 := rfl
      rw [hev]
      clear hev hx0 hbo hb1
      go_wp2_with fail
      go_loopw [8] (fun c wr => ∃ s : Nat, s ≤ S ∧ c = .int .i64 s ∧ Below w.heap.size w wr ∧ Hid (wr.heap[w.heap.size]? = some (.cells #[.slice A g.nw g.wc, .slice g.pa g.np g.pc] 25 (0, 0)))) (fun c _ => S - (intOf c).toNat)
      case atStart => exact ⟨0, by omega, rfl, c1, HX1⟩
      case round =>
        clear HX1 c1
        obtain ⟨s, hs, rfl, hbw, HX⟩ := hrel
        have x0 : wr.cell? ⟨w.heap.size, 0, none⟩ = some (.slice A g.nw g.wc) := cell_of HX.out 0 _ rfl
        have x1 : wr.cell? ⟨w.heap.size, 1, none⟩ = some (.slice g.pa g.np g.pc) := cell_of HX.out 1 _ rfl
        obtain ⟨b, off, rfl, m1⟩ := (HIA.out.below hbw) s (by omega)
        have k0 : (0 : Int) ≤ s := by omega
        have k1 : (s : Int) < g.nw := by omega
        have hy := HO.out.g.ws s (by omega)
        have hx := loss_bd HF.out s (by omega)
        have HC := Lib.hid (show ctD g l s = cnt (loss g l s) (g.W s) from rfl)
        have HLO := Lib.hid (HLL.out HF.out s (by omega))
        have HY := Lib.hid (fun wo => refCounted_any (loss g l s) (g.W s) wo (by omega) hy)
        rw [← HC.out] at HY
        have hws : w.heap.size < wr.heap.size := World.block_lt_of_cell? _ _ x1
        have hbs : b < wr.heap.size := World.block_lt_of_cell? _ _ m1
        clear hx hy
        by_cases hsS : s = S
        · subst hsS
          have hne : (ctD g l s != wBase g l) = false := by rw [HS.out.1, bne_self_eq_false]
          generalize loss g l s = L at *
          generalize g.W s = Y at *
          generalize ctD g l s = C at *
          generalize wBase g l = M at *
          go_wp2_with fail
          go_region_held3 (fun w' => w'.cell? ⟨w.heap.size, 0, none⟩ = some (.slice (some ⟨b, off, none⟩) g.nw g.wc) ∧ w'.cell? ⟨w.heap.size, 1, none⟩ = some (.slice g.pa g.np g.pc) ∧ w'.cell? ⟨b, off + s, none⟩ = some (.int .i64 Y))
            (first | (go_split_ands; refine ⟨?_, ?_, ?_⟩ <;> go_keep; done) | (go_split_ands; refine ⟨?_, ?_, ?_⟩ <;> refine keep ?_ hb3 <;> go_keep; done))
            (first
              | (go_at_call 37; refine (HLO.out _ hbw.drew).mono ?_; rintro e w3 ⟨rfl, hb3⟩; have c3 := bt hbw.drew hb3 (Nat.le_refl _); have HX3 := Lib.hid (blk_keep (w := wr.drew) HX.out hb3))
              | (go_at_call 39; refine (HY.out _).mono ?_; rintro e w4 ⟨rfl, rfl⟩))
          go_wp2
          go_ret2
          rw [HZ.out, HF.out]
          exact ⟨rfl, c3⟩
        · have hne : (ctD g l s != wBase g l) = true := by rw [bne_iff_ne]; have := HS.out.2 s (by omega); omega
          generalize loss g l s = L at *
          generalize g.W s = Y at *
          generalize ctD g l s = C at *
          generalize wBase g l = M at *
          go_wp2_with fail
          go_region_held3 (fun w' => w'.cell? ⟨w.heap.size, 0, none⟩ = some (.slice (some ⟨b, off, none⟩) g.nw g.wc) ∧ w'.cell? ⟨w.heap.size, 1, none⟩ = some (.slice g.pa g.np g.pc) ∧ w'.cell? ⟨b, off + s, none⟩ = some (.int .i64 Y))
            (first | (go_split_ands; refine ⟨?_, ?_, ?_⟩ <;> go_keep; done) | (go_split_ands; refine ⟨?_, ?_, ?_⟩ <;> refine keep ?_ hb3 <;> go_keep; done))
            (first
              | (go_at_call 37; refine (HLO.out _ hbw.drew).mono ?_; rintro e w3 ⟨rfl, hb3⟩; have c3 := bt hbw.drew hb3 (Nat.le_refl _); have HX3 := Lib.hid (blk_keep (w := wr.drew) HX.out hb3))
              | (go_at_call 39; refine (HY.out _).mono ?_; rintro e w4 ⟨rfl, rfl⟩))
          go_wp2
          go_roundw
          case rel => exact ⟨s + 1, by omega, by go_num, c3, HX3⟩
          case measure => simp [intOf]; omega
  · have HF := Lib.hid hf
    have HN := Lib.hid (fit_no hf)
    clear hf
    go_enter Try.func19, Try.ntmps19
    go_wp2_with fail
    generalize w.alloc _ = wo at hx0 hbo ⊢
    refine (HBA.out _ hbo).mono ?_
    rintro e w1 ⟨rfl, hb1⟩
    have c1 := bt hbo hb1 (Nat.le_refl _)
    rw [HF.out]
    have hev : errV false = 8 := rfl
    rw [hev]
    clear hev hx0 hbo hb1
    go_wp2
    go_ret2
    rw [HN.out.2.2, HF.out]
    exact ⟨rfl, c1⟩

set_option maxRecDepth 100000 in
set_option maxHeartbeats 4000000 in
theorem refAddOn_any (g : Gr) (l : Pf) (w : World) (hG : GrAt w g) (hL : PfAt w l) :
    Calls Try.prog 21 #[.agg #[.slice g.wa g.nw g.wc, .slice g.pa g.np g.pc], .slice l.a l.n l.c] w fun e w' => e = .returned (.tuple #[.int .i64 (addV g l), .int .i64 (errV (fit g l))]) ∧ Below w.heap.size w w' := by
  have HG := Lib.hid hG
  have HL := Lib.hid hL
  have hx0 := blk_new w (.cells #[.slice g.wa g.nw g.wc, .slice g.pa g.np g.pc] 25)
  have hbo : Below w.heap.size w (w.alloc (.cells #[.slice g.wa g.nw g.wc, .slice g.pa g.np g.pc] 25)) := (Below.refl _ _).alloc (Nat.le_refl _) _
  obtain ⟨A, hla⟩ : ∃ A, A = l.a := ⟨_, rfl⟩
  have HLA := Lib.hid (show PosAt w A l.n l.T l.Q by rw [hla]; exact hL.at')
  have HCK := Lib.hid (fun b hf wo h => refCheck_q g l wo (hG.below h) (hL.below h) b hf)
  rw [← hla] at HCK ⊢
  clear hla hG hL
  rcases hb (fit g l) with hf | hf
  · have HF := Lib.hid hf
    have HO := Lib.hid (fit_ok hf)
    have HR := Lib.hid (show addV g l = addUp g.P g.np l.T l.Q l.n by unfold addV; rw [hf]; rfl)
    have hn32 := (fit_ok hf).p.n32
    clear hf
    go_enter Try.func21, Try.ntmps21
    go_wp2_with fail
    generalize w.alloc _ = wo at hx0 hbo ⊢
    refine (HCK.out _ HF.out _ hbo).mono ?_
    rintro e w1 ⟨rfl, hb1⟩
    have c1 := bt hbo hb1 (Nat.le_refl _)
    have HX1 := Lib.hid (blk_keep hx0 hb1)
    have hev : errV true = 0 := rfl
    rw [hev]
    clear hev hx0 hbo hb1
    go_wp2_with fail
    go_loopw [6, 7, 8, 9] (fun t c _ _ wr => ∃ k : Nat, k ≤ l.n ∧ c = .int .i64 k ∧ Hid (t = .int .i64 (addUp g.P g.np l.T l.Q k)) ∧ Below w.heap.size w wr ∧ Hid (wr.heap[w.heap.size]? = some (.cells #[.slice g.wa g.nw g.wc, .slice g.pa g.np g.pc] 25 (0, 0)))) (fun _ c _ _ _ => l.n - (intOf c).toNat)
    case atStart => exact ⟨0, by omega, rfl, rfl, c1, HX1⟩
    case round =>
      clear HX1 c1
      obtain ⟨k, hk, rfl, ht, hbw, HX⟩ := hrel
      obtain rfl := ht.out
      clear ht
      have x0 : wr.cell? ⟨w.heap.size, 0, none⟩ = some (.slice g.wa g.nw g.wc) := cell_of HX.out 0 _ rfl
      have x1 : wr.cell? ⟨w.heap.size, 1, none⟩ = some (.slice g.pa g.np g.pc) := cell_of HX.out 1 _ rfl
      by_cases hlt : k < l.n
      · obtain ⟨b, off, rfl, q0, q1⟩ := (HLA.out.below hbw) k hlt
        have hws : w.heap.size < wr.heap.size := World.block_lt_of_cell? _ _ x1
        have hbs : b < wr.heap.size := World.block_lt_of_cell? _ _ q0
        have n1 : wr.heap.size ≠ w.heap.size := by omega
        have n2 : wr.heap.size ≠ b := by omega
        have HH := Lib.hid (HO.out.has k hlt)
        have HI := Lib.hid (idx_spec (HO.out.has k hlt))
        have HN := Lib.hid (show addUp g.P g.np l.T l.Q (k + 1) = addUp g.P g.np l.T l.Q k + max (l.Q k) (-(l.Q k)) * (g.P (idx g.P g.np (l.T k))).fee from rfl)
        have hm1 := HO.out.fee k hlt
        have hm2 := HO.out.add k hk
        have hq0 := HO.out.p.q k hlt
        go_wp2_with fail
        go_region_held3 (fun w' => w'.cell? ⟨w.heap.size, 0, none⟩ = some (.slice g.wa g.nw g.wc) ∧ w'.cell? ⟨w.heap.size, 1, none⟩ = some (.slice g.pa g.np g.pc) ∧ w'.cell? ⟨b, off + k * 2, none⟩ = some (.string (l.T k)))
          (first | (go_split_ands; refine ⟨?_, ?_, ?_⟩ <;> go_keep; done) | (go_split_ands; refine ⟨?_, ?_, ?_⟩ <;> refine keep ?_ hb3 <;> go_keep; done))
          (first
            | (go_at_call 41; refine (refP_yes g (l.T k) _ HO.out.g.p32 (HG.out.ps.below hbw.drew) HO.out.g.sorted HH.out).mono ?_; rintro e w3 ⟨rfl, hb3⟩; have e0 : wr.heap.size ≤ w3.heap.size := hb3.size; have e1 : w3.heap.size ≠ w.heap.size := (by omega); have e2 : w3.heap.size ≠ b := (by omega); have y0 : w3.cell? ⟨w.heap.size, 0, none⟩ = some (.slice g.wa g.nw g.wc) := keep (w := wr.drew) x0 hb3; have y1 : w3.cell? ⟨w.heap.size, 1, none⟩ = some (.slice g.pa g.np g.pc) := keep (w := wr.drew) x1 hb3; have y2 : w3.cell? ⟨b, off + k * 2, none⟩ = some (.string (l.T k)) := keep (w := wr.drew) q0 hb3; have HFN := Lib.hid (fin_new hbw HX.out hb3 #[.string (l.T k), .slice (g.P (idx g.P g.np (l.T k))).a (g.P (idx g.P g.np (l.T k))).len (g.P (idx g.P g.np (l.T k))).cap, .int .i64 (g.P (idx g.P g.np (l.T k))).fee] 54))
            | (go_at_call 41; refine (refP_yes g (l.T k) _ HO.out.g.p32 (HG.out.ps.below (hbw.drew.alloc hbw.size (.cells #[.string ⟨#[]⟩, .slice none 0 0, .int .i64 0] 54))) HO.out.g.sorted HH.out).mono ?_; rintro e w3 ⟨rfl, hb3⟩; have z0 := blk_keep (blk_new wr.drew (.cells #[.string ⟨#[]⟩, .slice none 0 0, .int .i64 0] 54)) hb3; have z1 : w3.cell? ⟨wr.heap.size, 0, none⟩ = some (.string ⟨#[]⟩) := cell_of z0 0 _ rfl; have z2 : w3.cell? ⟨wr.heap.size, 1, none⟩ = some (.slice none 0 0) := cell_of z0 1 _ rfl; have z3 : w3.cell? ⟨wr.heap.size, 2, none⟩ = some (.int .i64 0) := cell_of z0 2 _ rfl; have z4 : w3.frozen? ⟨wr.heap.size, 0, none⟩ = false := frozen_of z0 0; have z5 : w3.frozen? ⟨wr.heap.size, 1, none⟩ = false := frozen_of z0 1; have z6 : w3.frozen? ⟨wr.heap.size, 2, none⟩ = false := frozen_of z0 2; have HFN := Lib.hid (fin_set hbw HX.out 54 hb3 (.string (l.T k)) (.slice (g.P (idx g.P g.np (l.T k))).a (g.P (idx g.P g.np (l.T k))).len (g.P (idx g.P g.np (l.T k))).cap) (.int .i64 (g.P (idx g.P g.np (l.T k))).fee))))
        all_goals
          clear HX x0 x1 q0 q1 n1 n2 hws hbs hbw
          first
            | (clear e0 e1 e2 y0 y1 y2 hb3; generalize w3.alloc _ = wn at HFN ⊢; generalize w3.heap.size = G at HFN ⊢)
            | (clear z0 z1 z2 z3 z4 z5 z6 hb3; generalize ((w3.setCell _ _).setCell _ _).setCell _ _ = wn at HFN ⊢; generalize wr.heap.size = G at HFN ⊢)
          obtain ⟨b0, off0, h00, _, q1n⟩ := (HLA.out.below HFN.out.1) k hlt
          cases h00
          have p1 : wn.cell? ⟨G, 2, none⟩ = some (.int .i64 (g.P (idx g.P g.np (l.T k))).fee) := cell_of HFN.out.2.2.1 2 _ rfl
          generalize (g.P (idx g.P g.np (l.T k))).fee = fee at hm1 HN p1
          generalize addUp g.P g.np l.T l.Q k = S at hm2 HN ⊢
          generalize hM : max (l.Q k) (-(l.Q k)) = M at hm1 HN
          have HA := Lib.hid (fun wo => (refAbs_any (l.Q k) wo (by omega)).mono (fun e w' h => (show e = .returned (.int .i64 M) ∧ w' = wo by rw [← hM]; exact h)))
          clear hM
          have n1 : IntKind.i64.wrap (M * fee) = M * fee := IntWalk.i64_in _ (by omega)
          have n2 : IntKind.i64.wrap (S + M * fee) = S + M * fee := IntWalk.i64_in _ (by omega)
          go_wp2_with fail
          go_quiet ((go_at_call 42; exact Calls.quiet_of_same (HA.out _)))
          go_wp2
          go_roundw
          case rel => exact ⟨k + 1, by omega, by go_num, by rw [HN.out]; rfl, below_drewN HFN.out.1 _, Lib.hid HFN.out.2.1⟩
          case measure => simp [intOf]; omega
      · obtain rfl : k = l.n := by omega
        go_wp2
        go_ret2
        rw [HR.out, HF.out]
        exact ⟨rfl, hbw⟩
  · have HF := Lib.hid hf
    have HN := Lib.hid (fit_no hf)
    clear hf
    go_enter Try.func21, Try.ntmps21
    go_wp2_with fail
    generalize w.alloc _ = wo at hx0 hbo ⊢
    refine (HCK.out _ HF.out _ hbo).mono ?_
    rintro e w1 ⟨rfl, hb1⟩
    have c1 := bt hbo hb1 (Nat.le_refl _)
    have hev : errV false = 8 := rfl
    rw [hev]
    clear hev hx0 hbo hb1
    go_wp2
    go_ret2
    rw [HN.out.2.1, HF.out]
    exact ⟨rfl, c1⟩

set_option maxRecDepth 100000 in
set_option maxHeartbeats 1000000 in
theorem refMargin_any (g : Gr) (l : Pf) (w : World) (hG : GrAt w g) (hL : PfAt w l) :
    Calls Try.prog 23 #[.agg #[.slice g.wa g.nw g.wc, .slice g.pa g.np g.pc], .slice l.a l.n l.c] w fun e w' => e = .returned (.tuple #[.int .i64 (margV g l), .int .i64 (errV (fit g l))]) ∧ Below w.heap.size w w' := by
  have HG := Lib.hid hG
  have HL := Lib.hid hL
  have hx0 := blk_new w (.cells #[.slice g.wa g.nw g.wc, .slice g.pa g.np g.pc] 25)
  have hbo : Below w.heap.size w (w.alloc (.cells #[.slice g.wa g.nw g.wc, .slice g.pa g.np g.pc] 25)) := (Below.refl _ _).alloc (Nat.le_refl _) _
  have hB := wBase_bd g l
  have hA := addV_bd g l
  have HM := Lib.hid (show margV g l = wBase g l + addV g l from rfl)
  clear hG hL
  rcases hb (fit g l) with hf | hf
  all_goals
    have HF := Lib.hid hf
    have HN := Lib.hid (show fit g l = false → wBase g l = 0 ∧ addV g l = 0 ∧ wAt g l = 0 from fit_no)
    clear hf
    go_enter Try.func23, Try.ntmps23
    go_wp2_with fail
    generalize w.alloc _ = wo at hx0 hbo ⊢
    refine (refBase_any g l _ (HG.out.below hbo) (HL.out.below hbo)).mono ?_
    rintro e w1 ⟨rfl, hb1⟩
    have c1 := bt hbo hb1 (Nat.le_refl _)
    have HX1 := Lib.hid (blk_keep hx0 hb1)
    rw [HF.out]
    first
      | (have hev : errV true = 0 := rfl; rw [hev]; clear hev)
      | (have hev : errV false = 8 := rfl; rw [hev]; clear hev)
    clear hx0 hbo hb1
    have x0 : w1.cell? ⟨w.heap.size, 0, none⟩ = some (.slice g.wa g.nw g.wc) := cell_of HX1.out 0 _ rfl
    have x1 : w1.cell? ⟨w.heap.size, 1, none⟩ = some (.slice g.pa g.np g.pc) := cell_of HX1.out 1 _ rfl
    go_wp2_with fail
    refine (refAddOn_any g l _ (HG.out.below c1) (HL.out.below c1)).mono ?_
    rintro e w2 ⟨rfl, hb2⟩
    have c2 := bt c1 hb2 (Nat.le_refl _)
    rw [HF.out]
    first
      | (have hev : errV true = 0 := rfl; rw [hev]; clear hev)
      | (have hev : errV false = 8 := rfl; rw [hev]; clear hev)
    clear hb2 c1 x0 x1 HX1
    have n1 : IntKind.i64.wrap (wBase g l + addV g l) = wBase g l + addV g l := IntWalk.i64_in _ (by omega)
    go_wp2
    go_ret2
    rw [HM.out, HF.out]
    first
      | exact ⟨rfl, c2⟩
      | (rw [(HN.out HF.out).1, (HN.out HF.out).2.1]; exact ⟨rfl, c2⟩)
end Go.Proofs.Ytmljjofpbonplaa.Mg
