/-
  The walk of the law MarginCovers.
-/
import Derived.Test.YtmljjofpbonplaaMg18
namespace Go.Proofs.Ytmljjofpbonplaa.Mg
open Go.RowKit Go.Proofs.Ytmljjofpbonplaa Go.Proofs.Ytmljjofpbonplaa.Nm Go.Proofs.Ytmljjofpbonplaa.Ls

/-- is the base needed: by one of the first scenarios, or is it 0? -/
def ndB (g : Gr) (l : Pf) (s : Nat) : Bool := (wBase g l == 0) || (List.range s).any fun i => decide ((wBase g l - 1) * 1000 < loss g l i * g.W i)
theorem ndB_succ (g : Gr) (l : Pf) (s : Nat) : ndB g l (s + 1) = (ndB g l s || decide ((wBase g l - 1) * 1000 < loss g l s * g.W s)) := by
  unfold ndB
  rw [List.range_succ, List.any_append]
  simp [Bool.or_assoc]
theorem ndB_end {g : Gr} {l : Pf} (h : fit g l = true) : ndB g l g.nw = true := by
  have e : wBase g l = (bestUp (ctD g l) g.nw).2 := by unfold wBase; rw [if_pos h, best_doc h]
  unfold ndB
  rcases bestUp_at (ctD g l) g.nw with ⟨z, _⟩ | ⟨S, h1, _, h3, h4, _⟩
  · rw [e, z]
    rfl
  · rw [Bool.or_eq_true]
    refine .inr (List.any_eq_true.2 ⟨S, List.mem_range.2 h1, decide_eq_true ?_⟩)
    have hw := (fit_ok h).g.ws S h1
    have := (cnt_cover (loss g l S) (g.W S) (by omega)).2
    rw [e, ← h3]
    exact this (by have : ctD g l S = cnt (loss g l S) (g.W S) := rfl; omega)
theorem base_cover {g : Gr} {l : Pf} (h : fit g l = true) (s : Nat) (hs : s < g.nw) : loss g l s * g.W s ≤ wBase g l * 1000 := by
  have e : wBase g l = (bestUp (ctD g l) g.nw).2 := by unfold wBase; rw [if_pos h, best_doc h]
  have hw := (fit_ok h).g.ws s hs
  have h1 := (cnt_cover (loss g l s) (g.W s) (by omega)).1
  have h2 := bestUp_ge (ctD g l) g.nw s hs
  have h3 : ctD g l s = cnt (loss g l s) (g.W s) := rfl
  omega
theorem lossV_in {g : Gr} {l : Pf} (h : fit g l = true) (s : Nat) (hs : s < g.nw) : lossV g l (s : Int) = loss g l s ∧ lossE g l (s : Int) = 0 := by
  unfold lossV lossE
  rw [if_pos ⟨h, by omega, by omega⟩, if_pos h, if_pos ⟨by omega, by omega⟩]
  exact ⟨rfl, rfl⟩
theorem loss_in (g : Gr) (l : Pf) (s : Nat) (w : World) (hG : GrAt w g) (hL : PfAt w l) (hf : fit g l = true) (hs : s < g.nw) :
    Calls Try.prog 14 #[.agg #[.slice g.wa g.nw g.wc, .slice g.pa g.np g.pc], .slice l.a l.n l.c, .int .i64 (s : Int)] w fun e w' => e = .returned (.tuple #[.int .i64 (loss g l s), .int .i64 0]) ∧ Below w.heap.size w w' := by
  have := loss_any g l (s : Int) w hG hL
  rwa [(lossV_in hf s hs).1, (lossV_in hf s hs).2] at this
theorem loss_w {g : Gr} {l : Pf} (h : fit g l = true) (s : Nat) (hs : s < g.nw) : -281474976710656000 ≤ loss g l s * g.W s ∧ loss g l s * g.W s ≤ 281474976710656000 := by
  have h1 := loss_bd h s hs
  have h2 := (fit_ok h).g.ws s hs
  have := mul_bd (loss g l s) (g.W s) 281474976710656 1000 h1 (by omega)
  omega
def bit (b : Bool) : Int := errV b

set_option maxRecDepth 100000 in
set_option maxHeartbeats 4000000 in
theorem covers_walk (g : Gr) {w : World} (hG : GrAt w g) (a : Option Addr) (c : Nat) (xs : PL) (hp : PLok xs) (hA : AtL w 2 pc a xs) :
    Calls Try.prog 4 #[.agg #[.slice g.wa g.nw g.wc, .slice g.pa g.np g.pc], .slice a xs.length c] w fun e w' => e = .returned (.bool true) ∧ Below w.heap.size w w' := by
  have hx0 := blk_new w (.cells #[.slice g.wa g.nw g.wc, .slice g.pa g.np g.pc] 25)
  have hbo : Below w.heap.size w (w.alloc (.cells #[.slice g.wa g.nw g.wc, .slice g.pa g.np g.pc] 25)) := (Below.refl _ _).alloc (Nat.le_refl _) _
  obtain ⟨l, hl⟩ : ∃ l, l = pfl a c xs := ⟨_, rfl⟩
  have hL : PfAt w l := by rw [hl]; exact pfl_at hp hA
  have e1 : a = l.a := by rw [hl]; rfl
  have e2 : xs.length = l.n := by rw [hl]; rfl
  have e3 : c = l.c := by rw [hl]; rfl
  rw [e1, e2, e3]
  clear e1 e2 e3 hl hp hA
  obtain ⟨A, hwa⟩ : ∃ A, A = g.wa := ⟨_, rfl⟩
  have HIA := Lib.hid (show IntsAt w A g.nw g.W by rw [hwa]; exact hG.ws)
  have HGR := Lib.hid (fun wo h => great_any g l.a l.n l.c wo (hG.below h) hL.n)
  have HBA := Lib.hid (fun wo h => base_any g l wo (hG.below h) (hL.below h))
  have HMA := Lib.hid (fun wo h => margin_any g l wo (hG.below h) (hL.below h))
  have HLO := Lib.hid (fun s wo h hf hs => loss_in g l s wo (hG.below h) (hL.below h) hf hs)
  rw [← hwa] at HGR HBA HMA HLO hx0 hbo ⊢
  clear hwa hG hL
  go_enter Try.func4, Try.ntmps4
  go_wp2_with fail
  generalize w.alloc _ = wo at hx0 hbo ⊢
  refine (alive_any _).mono ?_
  rintro e w1 ⟨rfl, hb1⟩
  have c1 := bt hbo hb1 (Nat.le_refl _)
  have HX1 := Lib.hid (blk_keep hx0 hb1)
  clear hx0 hbo hb1
  have x0 : w1.cell? ⟨w.heap.size, 0, none⟩ = some (.slice A g.nw g.wc) := cell_of HX1.out 0 _ rfl
  have x1 : w1.cell? ⟨w.heap.size, 1, none⟩ = some (.slice g.pa g.np g.pc) := cell_of HX1.out 1 _ rfl
  go_wp2_with fail
  refine (HGR.out _ c1).mono ?_
  rintro e w2 ⟨rfl, hb2⟩
  have c2 := bt c1 hb2 (Nat.le_refl _)
  have HX2 := Lib.hid (blk_keep HX1.out hb2)
  clear HX1 c1 hb2 x0 x1
  have x0 : w2.cell? ⟨w.heap.size, 0, none⟩ = some (.slice A g.nw g.wc) := cell_of HX2.out 0 _ rfl
  have x1 : w2.cell? ⟨w.heap.size, 1, none⟩ = some (.slice g.pa g.np g.pc) := cell_of HX2.out 1 _ rfl
  rcases hb (greatB g || decide (40 < l.n)) with hg | hg
  · rw [hg]
    clear hg
    go_wp2
    go_ret
    exact ⟨rfl, c2⟩
  rw [hg]
  clear hg
  go_wp2_with fail
  refine (HBA.out _ c2).mono ?_
  rintro e w3 ⟨rfl, hb3⟩
  have c3 := bt c2 hb3 (Nat.le_refl _)
  have HX3 := Lib.hid (blk_keep HX2.out hb3)
  clear HX2 c2 hb3 x0 x1
  have x0 : w3.cell? ⟨w.heap.size, 0, none⟩ = some (.slice A g.nw g.wc) := cell_of HX3.out 0 _ rfl
  have x1 : w3.cell? ⟨w.heap.size, 1, none⟩ = some (.slice g.pa g.np g.pc) := cell_of HX3.out 1 _ rfl
  go_wp2_with fail
  refine (HMA.out _ c3).mono ?_
  rintro e w4 ⟨rfl, hb4⟩
  have c4 := bt c3 hb4 (Nat.le_refl _)
  have HX4 := Lib.hid (blk_keep HX3.out hb4)
  clear HX3 c3 hb4 x0 x1
  rcases hb (fit g l) with hf | hf
  · have HF := Lib.hid hf
    have hnw : g.nw ≤ 50 := (fit_ok hf).g.w50
    have hB := wBase_bd g l
    have hA := addV_bd g l
    have hM : wBase g l ≤ margV g l ∧ margV g l ≤ 562949953421312 := by unfold margV; omega
    have HN0 := Lib.hid (show ndB g l 0 = (wBase g l == 0) by unfold ndB; simp)
    have HEND := Lib.hid (ndB_end hf)
    have HSC := Lib.hid (ndB_succ g l)
    have HCV := Lib.hid (fun s hs => base_cover hf s hs)
    have HLW := Lib.hid (fun s hs => loss_w hf s hs)
    have HLB := Lib.hid (fun s hs => loss_bd hf s hs)
    rw [hf]
    have hev : errV true = 0 := rfl
    rw [hev]
    clear hev hf
    generalize margV g l = M at *
    generalize wBase g l = B at *
    go_wp2_with fail
    rw [← HN0.out]
    go_loopw [10, 11, 12, 13] (fun n c _ _ wr => ∃ s : Nat, s ≤ g.nw ∧ c = .int .i64 s ∧ n = .bool (ndB g l s) ∧ Below w.heap.size w wr ∧ Hid (wr.heap[w.heap.size]? = some (.cells #[.slice A g.nw g.wc, .slice g.pa g.np g.pc] 25 (0, 0)))) (fun _ c _ _ _ => g.nw - (intOf c).toNat)
    case atStart => exact ⟨0, by omega, rfl, rfl, c4, HX4⟩
    case round =>
      clear HX4 c4
      obtain ⟨s, hs, rfl, rfl, hbw, HX⟩ := hrel
      have x0 : wr.cell? ⟨w.heap.size, 0, none⟩ = some (.slice A g.nw g.wc) := cell_of HX.out 0 _ rfl
      have x1 : wr.cell? ⟨w.heap.size, 1, none⟩ = some (.slice g.pa g.np g.pc) := cell_of HX.out 1 _ rfl
      by_cases hlt : s < g.nw
      · have k0 : (0 : Int) ≤ s := by omega
        have k1 : (s : Int) < g.nw := by omega
        go_wp2_with fail
        refine (HLO.out s _ hbw HF.out hlt).mono ?_
        rintro e w5 ⟨rfl, hb5⟩
        have c5 := bt hbw hb5 (Nat.le_refl _)
        have HX5 := Lib.hid (blk_keep HX.out hb5)
        clear HX hbw hb5 x0 x1
        have x0 : w5.cell? ⟨w.heap.size, 0, none⟩ = some (.slice A g.nw g.wc) := cell_of HX5.out 0 _ rfl
        obtain ⟨b, off, rfl, m1⟩ := (HIA.out.below c5) s hlt
        have h1 := HCV.out s hlt
        have h2 := HLW.out s hlt
        have h3 := HLB.out s hlt
        have HN := Lib.hid (HSC.out s)
        have n1 : IntKind.i64.wrap (B * 1000) = B * 1000 := IntWalk.i64_in _ (by omega)
        have n2 : IntKind.i64.wrap (loss g l s * g.W s) = loss g l s * g.W s := IntWalk.i64_in _ (by omega)
        have n3 : IntKind.i64.wrap (B - 1) = B - 1 := IntWalk.i64_in _ (by omega)
        have n4 : IntKind.i64.wrap ((B - 1) * 1000) = (B - 1) * 1000 := IntWalk.i64_in _ (by omega)
        generalize loss g l s = L at *
        generalize g.W s = Y at *
        rcases hb (ndB g l s) with hn | hn
        · have HN2 := Lib.hid (show ndB g l (s + 1) = true by rw [HN.out, hn]; rfl)
          clear HN
          rw [hn]
          clear hn
          go_wp2
          go_roundw
          case rel => exact ⟨s + 1, by omega, by go_num, by rw [HN2.out], c5, HX5⟩
          case measure => simp [intOf]; omega
        · have HN2 := Lib.hid (show ndB g l (s + 1) = decide ((B - 1) * 1000 < L * Y) by rw [HN.out, hn]; rfl)
          clear HN
          rw [hn]
          clear hn
          generalize hd : decide ((B - 1) * 1000 < L * Y) = D at HN2
          go_wp2
          go_roundw
          case rel => exact ⟨s + 1, by omega, by go_num, by rw [HN2.out], c5, HX5⟩
          case measure => simp [intOf]; omega
      · obtain rfl : s = g.nw := by omega
        rw [HEND.out]
        go_wp2
        go_ret
        exact ⟨rfl, hbw⟩
  · have hN := fit_no hf
    have HM := Lib.hid (show margV g l = 0 by unfold margV; rw [hN.1, hN.2.1]; rfl)
    rw [hf, HM.out, hN.1]
    have hev : errV false = 8 := rfl
    rw [hev]
    clear hev hf hN
    go_wp2
    go_ret
    exact ⟨rfl, c4⟩
end Go.Proofs.Ytmljjofpbonplaa.Mg
