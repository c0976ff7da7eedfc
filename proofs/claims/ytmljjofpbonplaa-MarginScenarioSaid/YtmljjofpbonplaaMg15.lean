/-
  Margin's reference: the walks of Loss, Base, Worst, AddOn, Margin.
-/
import Derived.Test.YtmljjofpbonplaaMg14
namespace Go.Proofs.Ytmljjofpbonplaa.Mg
open Go.RowKit Go.Proofs.Ytmljjofpbonplaa Go.Proofs.Ytmljjofpbonplaa.Nm

theorem refCheck_q (g : Gr) (l : Pf) (w : World) (hG : GrAt w g) (hL : PfAt w l) (b : Bool) (hf : fit g l = b) :
    Calls Try.prog 27 #[.agg #[.slice g.wa g.nw g.wc, .slice g.pa g.np g.pc], .slice l.a l.n l.c] w fun e w' => e = .returned (.int .i64 (errV b)) ∧ Below w.heap.size w w' := by
  subst hf
  exact refCheck_any g l w hG hL

set_option maxRecDepth 100000 in
set_option maxHeartbeats 1000000 in
theorem refLoss_any (g : Gr) (l : Pf) (s : Int) (w : World) (hG : GrAt w g) (hL : PfAt w l) :
    Calls Try.prog 15 #[.agg #[.slice g.wa g.nw g.wc, .slice g.pa g.np g.pc], .slice l.a l.n l.c, .int .i64 s] w fun e w' => e = .returned (.tuple #[.int .i64 (lossV g l s), .int .i64 (lossE g l s)]) ∧ Below w.heap.size w w' := by
  have HG := Lib.hid hG
  have HL := Lib.hid hL
  clear hG hL
  have hx0 := blk_new w (.cells #[.slice g.wa g.nw g.wc, .slice g.pa g.np g.pc] 25)
  have hbo : Below w.heap.size w (w.alloc (.cells #[.slice g.wa g.nw g.wc, .slice g.pa g.np g.pc] 25)) := (Below.refl _ _).alloc (Nat.le_refl _) _
  rcases hb (fit g l) with hf | hf
  · have HF := Lib.hid hf
    have hnw : g.nw ≤ 50 := (fit_ok hf).g.w50
    by_cases hs : 0 ≤ s ∧ s < g.nw
    · obtain ⟨S, rfl⟩ : ∃ S : Nat, s = S := ⟨s.toNat, by omega⟩
      have HR := Lib.hid (show lossV g l (S : Int) = loss g l S ∧ lossE g l (S : Int) = 0 by unfold lossV lossE; rw [if_pos ⟨hf, hs⟩, if_pos hf, if_pos hs]; exact ⟨rfl, rfl⟩)
      clear hf
      go_enter Try.func15, Try.ntmps15
      go_wp2_with fail
      generalize w.alloc _ = wo at hx0 hbo ⊢
      refine (refCheck_q g l _ (HG.out.below hbo) (HL.out.below hbo) _ HF.out).mono ?_
      rintro e w1 ⟨rfl, hb1⟩
      have c1 := bt hbo hb1 (Nat.le_refl _)
      have HX1 := Lib.hid (blk_keep hx0 hb1)
      have hev : errV true = 0 := rfl
      rw [hev]
      clear hev hx0 hbo hb1
      have x0 : w1.cell? ⟨w.heap.size, 0, none⟩ = some (.slice g.wa g.nw g.wc) := cell_of HX1.out 0 _ rfl
      have x1 : w1.cell? ⟨w.heap.size, 1, none⟩ = some (.slice g.pa g.np g.pc) := cell_of HX1.out 1 _ rfl
      go_wp2_with fail
      refine (refLoss_in g l S _ (HG.out.below c1) (HL.out.below c1) HF.out (by omega)).mono ?_
      rintro e w2 ⟨rfl, hb2⟩
      have c2 := bt c1 hb2 (Nat.le_refl _)
      clear hb2 c1 x0 x1 HX1
      go_wp2
      go_ret2
      rw [HR.out.1, HR.out.2]
      exact ⟨rfl, c2⟩
    · have HR := Lib.hid (show lossV g l s = 0 ∧ lossE g l s = 2 by unfold lossV lossE; rw [if_neg (fun h => hs h.2), if_pos hf, if_neg hs]; exact ⟨rfl, rfl⟩)
      clear hf
      go_enter Try.func15, Try.ntmps15
      go_wp2_with fail
      generalize w.alloc _ = wo at hx0 hbo ⊢
      refine (refCheck_q g l _ (HG.out.below hbo) (HL.out.below hbo) _ HF.out).mono ?_
      rintro e w1 ⟨rfl, hb1⟩
      have c1 := bt hbo hb1 (Nat.le_refl _)
      have HX1 := Lib.hid (blk_keep hx0 hb1)
      have hev : errV true = 0 := rfl
      rw [hev]
      clear hev hx0 hbo hb1
      have x0 : w1.cell? ⟨w.heap.size, 0, none⟩ = some (.slice g.wa g.nw g.wc) := cell_of HX1.out 0 _ rfl
      by_cases h0 : s < 0
      · clear hs
        go_wp2
        go_ret2
        rw [HR.out.1, HR.out.2]
        exact ⟨rfl, c1⟩
      · have h1 : (g.nw : Int) ≤ s := by omega
        clear hs
        go_wp2
        go_ret2
        rw [HR.out.1, HR.out.2]
        exact ⟨rfl, c1⟩
  · have HF := Lib.hid hf
    have HR := Lib.hid (show lossV g l s = 0 ∧ lossE g l s = 8 by unfold lossV lossE; rw [hf]; exact ⟨rfl, rfl⟩)
    clear hf
    go_enter Try.func15, Try.ntmps15
    go_wp2_with fail
    generalize w.alloc _ = wo at hx0 hbo ⊢
    refine (refCheck_q g l _ (HG.out.below hbo) (HL.out.below hbo) _ HF.out).mono ?_
    rintro e w1 ⟨rfl, hb1⟩
    have c1 := bt hbo hb1 (Nat.le_refl _)
    have hev : errV false = 8 := rfl
    rw [hev]
    clear hev hx0 hbo hb1
    go_wp2
    go_ret2
    rw [HR.out.1, HR.out.2]
    exact ⟨rfl, c1⟩

set_option maxRecDepth 100000 in
set_option maxHeartbeats 1000000 in
theorem refBase_any (g : Gr) (l : Pf) (w : World) (hG : GrAt w g) (hL : PfAt w l) :
    Calls Try.prog 17 #[.agg #[.slice g.wa g.nw g.wc, .slice g.pa g.np g.pc], .slice l.a l.n l.c] w fun e w' => e = .returned (.tuple #[.int .i64 (wBase g l), .int .i64 (errV (fit g l))]) ∧ Below w.heap.size w w' := by
  have HG := Lib.hid hG
  have HL := Lib.hid hL
  clear hG hL
  have hx0 := blk_new w (.cells #[.slice g.wa g.nw g.wc, .slice g.pa g.np g.pc] 25)
  have hbo : Below w.heap.size w (w.alloc (.cells #[.slice g.wa g.nw g.wc, .slice g.pa g.np g.pc] 25)) := (Below.refl _ _).alloc (Nat.le_refl _) _
  rcases hb (fit g l) with hf | hf
  · have HF := Lib.hid hf
    have HO := Lib.hid (fit_ok hf)
    have hnw : g.nw ≤ 50 := (fit_ok hf).g.w50
    obtain ⟨A, hwa⟩ : ∃ A, A = g.wa := ⟨_, rfl⟩
    have HIA := Lib.hid (show IntsAt w A g.nw g.W by rw [hwa]; exact HG.out.ws)
    have HCK := Lib.hid (fun wo h => refCheck_q g l wo (HG.out.below h) (HL.out.below h) _ hf)
    have HLL := Lib.hid (fun s hs wo h => refLoss_in g l s wo (HG.out.below h) (HL.out.below h) hf hs)
    rw [← hwa] at HCK HLL hx0 hbo ⊢
    have HR := Lib.hid (show wBase g l = (bestUp (ctD g l) g.nw).2 by unfold wBase; rw [if_pos hf, best_doc hf])
    clear hf hwa
    go_enter Try.func17, Try.ntmps17
    go_wp2_with fail
    generalize w.alloc _ = wo at hx0 hbo ⊢
    refine (HCK.out _ hbo).mono ?_
    rintro e w1 ⟨rfl, hb1⟩
    have c1 := bt hbo hb1 (Nat.le_refl _)
    have HX1 := Lib.hid (blk_keep hx0 hb1)
    have hev : errV true = 0 := rfl
    rw [hev]
    clear hev hx0 hbo hb1
    go_wp2_with fail
    go_loopw [6, 7] (fun t c wr => ∃ s : Nat, s ≤ g.nw ∧ c = .int .i64 s ∧ Hid (t = .int .i64 (bestUp (ctD g l) s).2) ∧ Below w.heap.size w wr ∧ Hid (wr.heap[w.heap.size]? = some (.cells #[.slice A g.nw g.wc, .slice g.pa g.np g.pc] 25 (0, 0)))) (fun _ c _ => g.nw - (intOf c).toNat)
    case atStart => exact ⟨0, by omega, rfl, rfl, c1, HX1⟩
    case round =>
      clear HX1 c1
      obtain ⟨s, hs, rfl, ht, hbw, HX⟩ := hrel
      obtain rfl := ht.out
      clear ht
      have x0 : wr.cell? ⟨w.heap.size, 0, none⟩ = some (.slice A g.nw g.wc) := cell_of HX.out 0 _ rfl
      have x1 : wr.cell? ⟨w.heap.size, 1, none⟩ = some (.slice g.pa g.np g.pc) := cell_of HX.out 1 _ rfl
      by_cases hlt : s < g.nw
      · obtain ⟨b, off, rfl, m1⟩ := (HIA.out.below hbw) s hlt
        have k0 : (0 : Int) ≤ s := by omega
        have k1 : (s : Int) < g.nw := by omega
        have hy := HO.out.g.ws s hlt
        have hx := loss_bd HF.out s hlt
        have hct := ctD_bd HF.out s hlt
        have hbe := bestUp_nonneg (ctD g l) s
        have HM := Lib.hid (bestUp_max (ctD g l) s)
        have HC := Lib.hid (show ctD g l s = cnt (loss g l s) (g.W s) from rfl)
        have HLO := Lib.hid (HLL.out s hlt)
        have HY := Lib.hid (fun wo => refCounted_any (loss g l s) (g.W s) wo (by omega) hy)
        rw [← HC.out] at HY
        have hws : w.heap.size < wr.heap.size := World.block_lt_of_cell? _ _ x1
        have hbs : b < wr.heap.size := World.block_lt_of_cell? _ _ m1
        clear hx hy
        generalize loss g l s = L at *
        generalize g.W s = Y at *
        generalize ctD g l s = C at *
        generalize (bestUp (ctD g l) s).2 = M at *
        go_wp2_with fail
        go_region_held3 (fun w' => w'.cell? ⟨w.heap.size, 0, none⟩ = some (.slice (some ⟨b, off, none⟩) g.nw g.wc) ∧ w'.cell? ⟨w.heap.size, 1, none⟩ = some (.slice g.pa g.np g.pc) ∧ w'.cell? ⟨b, off + s, none⟩ = some (.int .i64 Y))
          (first | (go_split_ands; refine ⟨?_, ?_, ?_⟩ <;> go_keep; done) | (go_split_ands; refine ⟨?_, ?_, ?_⟩ <;> refine keep ?_ hb3 <;> go_keep; done))
          (first
            | (go_at_call 37; refine (HLO.out _ hbw.drew).mono ?_; rintro e w3 ⟨rfl, hb3⟩; have c3 := bt hbw.drew hb3 (Nat.le_refl _); have HX3 := Lib.hid (blk_keep (w := wr.drew) HX.out hb3))
            | (go_at_call 39; refine (HY.out _).mono ?_; rintro e w4 ⟨rfl, rfl⟩))
        have e : (if M < C then C else M) = (bestUp (ctD g l) (s + 1)).2 := by rw [HM.out]; split <;> omega
        have HE := Lib.hid e
        generalize (if M < C then C else M) = N at *
        clear e
        go_wp2
        go_roundw
        case rel => exact ⟨s + 1, by omega, by go_num, by rw [← HE.out]; rfl, c3, HX3⟩
        case measure => simp [intOf]; omega
      · obtain rfl : s = g.nw := by omega
        go_wp2
        go_ret2
        rw [HR.out, HF.out]
        exact ⟨rfl, hbw⟩
  · have HF := Lib.hid hf
    have HN := Lib.hid (fit_no hf)
    clear hf
    go_enter Try.func17, Try.ntmps17
    go_wp2_with fail
    generalize w.alloc _ = wo at hx0 hbo ⊢
    refine (refCheck_q g l _ (HG.out.below hbo) (HL.out.below hbo) _ HF.out).mono ?_
    rintro e w1 ⟨rfl, hb1⟩
    have c1 := bt hbo hb1 (Nat.le_refl _)
    have hev : errV false = 8 := rfl
    rw [hev]
    clear hev hx0 hbo hb1
    go_wp2
    go_ret2
    rw [HN.out.1, HF.out]
    exact ⟨rfl, c1⟩
end Go.Proofs.Ytmljjofpbonplaa.Mg
