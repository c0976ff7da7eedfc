/-
  Margin: a grid and a portfolio, bundled; the walks of margin.worst, Loss, Base, Worst, AddOn, Margin.
-/
import Derived.Test.YtmljjofpbonplaaMg7
import Derived.Deep.RegionHeld3
import Derived.Deep.DrawnRows
namespace Go.Proofs.Ytmljjofpbonplaa.Mg
open Go.RowKit Go.Proofs.Ytmljjofpbonplaa Go.Proofs.Ytmljjofpbonplaa.Nm

/-- a grid: headers and contents -/
structure Gr where
  wa : Option Addr
  nw : Nat
  wc : Nat
  pa : Option Addr
  np : Nat
  pc : Nat
  W : Nat → Int
  P : Nat → PD
/-- a portfolio: header and contents -/
structure Pf where
  a : Option Addr
  n : Nat
  c : Nat
  T : Nat → ByteArray
  Q : Nat → Int
structure GrAt (w : World) (g : Gr) : Prop where
  nw : g.nw ≤ maxLen
  np : g.np ≤ maxLen
  pd : PDok g.P
  ws : IntsAt w g.wa g.nw g.W
  ps : ProdsAt w g.pa g.np g.P
structure PfAt (w : World) (l : Pf) : Prop where
  n : l.n ≤ maxLen
  t : ∀ i, (l.T i).size ≤ maxLen
  at' : PosAt w l.a l.n l.T l.Q
theorem GrAt.below {w w' : World} {g : Gr} (h : GrAt w g) (hb : Below w.heap.size w w') : GrAt w' g := ⟨h.nw, h.np, h.pd, h.ws.below hb, h.ps.below hb⟩
theorem PfAt.below {w w' : World} {l : Pf} (h : PfAt w l) (hb : Below w.heap.size w w') : PfAt w' l := ⟨h.n, h.t, h.at'.below hb⟩

/-- does it fit? -/
def fit (g : Gr) (l : Pf) : Bool := fitB g.W g.nw g.P g.np l.T l.Q l.n
theorem fit_ok {g : Gr} {l : Pf} (h : fit g l = true) : Fit g.W g.nw g.P g.np l.T l.Q l.n := fitB_ok h
/-- the loss in a scenario -/
def loss (g : Gr) (l : Pf) (s : Nat) : Int := lossUp g.P g.np l.T l.Q l.n s
def best (g : Gr) (l : Pf) : Int × Int := bestUp (fun s => cntP (loss g l s) (g.W s)) g.nw
def wAt (g : Gr) (l : Pf) : Int := if fit g l = true then (best g l).1 else 0
def wBase (g : Gr) (l : Pf) : Int := if fit g l = true then (best g l).2 else 0

theorem check_q (g : Gr) (l : Pf) (w : World) (hG : GrAt w g) (hL : PfAt w l) (b : Bool) (hf : fit g l = b) :
    Calls Try.prog 26 #[.agg #[.slice g.wa g.nw g.wc, .slice g.pa g.np g.pc], .slice l.a l.n l.c] w fun e w' => e = .returned (.int .i64 (errV b)) ∧ Below w.heap.size w w' := by
  subst hf
  exact check_any g.wa g.pa l.a g.nw g.wc g.np g.pc l.n l.c g.W g.P l.T l.Q w hG.nw hG.np hL.n hG.pd hL.t hG.ws hG.ps hL.at'
theorem losses_q (g : Gr) (l : Pf) (w : World) (hG : GrAt w g) (hL : PfAt w l) (hf : fit g l = true) :
    Calls Try.prog 36 #[.agg #[.slice g.wa g.nw g.wc, .slice g.pa g.np g.pc], .slice l.a l.n l.c] w fun e w' => e = .returned (.slice (some ⟨w.heap.size + 1, 0, none⟩) g.nw g.nw) ∧
      w'.heap[w.heap.size + 1]? = some (.cells (arrI g.nw (loss g l)) 3 (0, 0)) ∧ Below w.heap.size w w' :=
  losses_any g.wa g.pa l.a g.nw g.wc g.np g.pc l.n l.c g.W g.P l.T l.Q w (fit_ok hf) hG.ps hL.at'

set_option maxRecDepth 100000 in
set_option maxHeartbeats 1000000 in
theorem worst_any (g : Gr) (l : Pf) (w : World) (hG : GrAt w g) (hL : PfAt w l) :
    Calls Try.prog 38 #[.agg #[.slice g.wa g.nw g.wc, .slice g.pa g.np g.pc], .slice l.a l.n l.c] w fun e w' => e = .returned (.tuple #[.int .i64 (wAt g l), .int .i64 (wBase g l), .int .i64 (errV (fit g l))]) ∧ Below w.heap.size w w' := by
  have HG := Lib.hid hG
  have HL := Lib.hid hL
  clear hG hL
  have hx0 := blk_new w (.cells #[.slice g.wa g.nw g.wc, .slice g.pa g.np g.pc] 25)
  have hbo : Below w.heap.size w (w.alloc (.cells #[.slice g.wa g.nw g.wc, .slice g.pa g.np g.pc] 25)) := (Below.refl _ _).alloc (Nat.le_refl _) _
  rcases hb (fit g l) with hf | hf
  · have HF := Lib.hid hf
    have HO := Lib.hid (fit_ok hf)
    have HR := Lib.hid (show wAt g l = (best g l).1 ∧ wBase g l = (best g l).2 by unfold wAt wBase; rw [hf]; exact ⟨rfl, rfl⟩)
    have hnw : g.nw ≤ 50 := (fit_ok hf).g.w50
    clear hf
    go_enter Try.func38, Try.ntmps38
    go_wp2_with fail
    generalize w.alloc _ = wo at hx0 hbo ⊢
    refine (check_q g l _ (HG.out.below hbo) (HL.out.below hbo) _ HF.out).mono ?_
    rintro e w1 ⟨rfl, hb1⟩
    have c1 := bt hbo hb1 (Nat.le_refl _)
    have HX1 := Lib.hid (blk_keep hx0 hb1)
    have hev : errV true = 0 := rfl
    rw [hev]
    clear hev hx0 hbo hb1
    have x0 := cell_of HX1.out 0 _ rfl
    have x1 := cell_of HX1.out 1 _ rfl
    go_wp2_with fail
    refine (losses_q g l _ (HG.out.below c1) (HL.out.below c1) HF.out).mono ?_
    rintro e w2 ⟨rfl, hm, hb2⟩
    have c2 := bt c1 hb2 (Nat.le_refl _)
    have HX2 := Lib.hid (blk_keep HX1.out hb2)
    have hB : w.heap.size < w1.heap.size := blk_lt HX1.out
    clear hb2 c1 x0 x1 HX1
    generalize hM : w1.heap.size + 1 = M at hm ⊢
    have HM := Lib.hid hm
    have hmB : w.heap.size < M := by omega
    clear hm hM hB
    go_wp2_with fail
    generalize hct : (fun s => cntP (loss g l s) (g.W s)) = ct at *
    have HCT := Lib.hid hct
    clear hct
    go_loopw [9, 23, 24, 25, 26, 27, 28, 29, 30, 31, 32, 33, 34, 35, 36, 37, 38, 39] (fun _ c _ _ _ _ _ _ _ _ _ _ _ _ _ _ _ _ wr => ∃ s : Nat, s ≤ g.nw ∧ c = .int .i64 s ∧ Below w.heap.size w wr ∧
        Hid (wr.heap[w.heap.size]? = some (.cells #[.slice g.wa g.nw g.wc, .slice g.pa g.np g.pc] 25 (0, 0))) ∧
        Hid (wr.heap[M]? = some (.cells (arrI g.nw (mix ct (loss g l) s)) 3 (0, 0))))
        (fun _ c _ _ _ _ _ _ _ _ _ _ _ _ _ _ _ _ _ => g.nw - (intOf c).toNat)
    case atStart =>
      refine ⟨0, by omega, rfl, c2, HX2, ?_⟩
      have e : mix ct (loss g l) 0 = loss g l := by funext i; simp [mix]
      rw [e]
      exact HM
    case round =>
      clear HX2 HM c2
      obtain ⟨s, hs, rfl, hbw, HX, HM⟩ := hrel
      by_cases hlt : s < g.nw
      · have o1 : wr.cell? ⟨M, s, none⟩ = some (.int .i64 (loss g l s)) := by
          have := cell_of HM.out s _ (arrI_get g.nw _ s hlt)
          simpa [mix] using this
        have o2 := frozen_of HM.out s
        have p1 : wr.cell? ⟨w.heap.size, 0, none⟩ = some (.slice g.wa g.nw g.wc) := cell_of HX.out 0 _ rfl
        obtain ⟨b, off, ha, m1⟩ := HG.out.ws s hlt
        have hbn : M ≠ b := by
          have := World.block_lt_of_cell? w _ m1
          intro h
          simp at this
          omega
        have hwn : M ≠ w.heap.size := by omega
        have m1 := keep m1 hbw
        rw [ha] at p1
        clear ha
        have k0 : (0 : Int) ≤ s := by omega
        have k1 : (s : Int) < g.nw := by omega
        have hy := HO.out.g.ws s hlt
        have hx := HO.out.loss l.n s (Nat.le_refl _) hlt
        have hln := HO.out.p.n32
        have HN := Lib.hid (show ct s = cntP (loss g l s) (g.W s) by rw [← HCT.out])
        have HA2 := Lib.hid (fun x : Int => arrI_set HM.out s x)
        have hx2 : -1000000000000000 ≤ loss g l s ∧ loss g l s ≤ 1000000000000000 := by unfold loss; omega
        clear hx hln
        go_wp2_with fail
        go_region_with (go_at_call 52; refine (counted_any (loss g l s) (g.W s) _ hx2 hy).mono ?_; rintro e w' ⟨rfl, rfl⟩)
        all_goals
          clear o1 o2 p1 m1 hx2 hy
          have HM2 : Hid ((wr.setCell { block := M, off := s } (Value.int IntKind.i64 (cntP (loss g l s) (g.W s)))).drew.heap[M]? = some (.cells (arrI g.nw (mix ct (loss g l) (s + 1))) 3 (0, 0))) := by
            have e := HA2.out (cntP (loss g l s) (g.W s))
            rw [← HN.out, mix_upd] at e
            rw [← HN.out]
            exact e
          have HX2 := Lib.hid (set_keep HX.out (p := ⟨M, s, none⟩) (by simp; omega) (.int .i64 (cntP (loss g l s) (g.W s))))
          clear HX HM HN HA2
          go_wp2
          go_roundw
          case rel => exact ⟨s + 1, by omega, by go_num, (hbw.setCell (p := ⟨M, s, none⟩) (by simp; omega) _).drew, HX2, HM2⟩
          case measure => simp [intOf]; omega
      · have HM2 : Hid (wr.heap[M]? = some (.cells (arrI g.nw ct) 3 (0, 0))) := by
          have := arrI_congr g.nw (mix ct (loss g l) s) ct (fun i hi => by simp [mix]; omega)
          unfold Hid
          rw [← this]
          exact HM.out
        have HC := Lib.hid (show bestUp ct g.nw = best g l by rw [← HCT.out]; rfl)
        obtain rfl : s = g.nw := by omega
        clear HM
        have hI : IntsAt wr (some ⟨M, 0, none⟩) g.nw ct := fun i hi => ⟨M, 0, rfl, by
          have := cell_of HM2.out i _ (arrI_get g.nw ct i hi)
          simpa using this⟩
        have HG2 := Lib.hid (greatest_any (some ⟨M, 0, none⟩) g.nw g.nw ct wr (by omega) hI)
        clear hI
        go_wp2_with fail
        refine HG2.out.mono ?_
        rintro e w5 ⟨rfl, rfl⟩
        go_wp2
        refine bodyPost_ret (results_tmp3 rfl _ _ _) rfl ⟨?_, hbw⟩
        rw [HR.out.1, HR.out.2, HF.out, HC.out]
        rfl
  · have HF := Lib.hid hf
    have HR := Lib.hid (show wAt g l = 0 ∧ wBase g l = 0 by unfold wAt wBase; rw [hf]; exact ⟨rfl, rfl⟩)
    clear hf
    go_enter Try.func38, Try.ntmps38
    go_wp2_with fail
    generalize w.alloc _ = wo at hx0 hbo ⊢
    refine (check_q g l _ (HG.out.below hbo) (HL.out.below hbo) _ HF.out).mono ?_
    rintro e w1 ⟨rfl, hb1⟩
    have c1 := bt hbo hb1 (Nat.le_refl _)
    have hev : errV false = 8 := rfl
    rw [hev]
    clear hev hx0 hbo hb1
    go_wp2
    refine bodyPost_ret (results_tmp3 rfl _ _ _) rfl ⟨?_, c1⟩
    rw [HR.out.1, HR.out.2, HF.out]
    rfl
end Go.Proofs.Ytmljjofpbonplaa.Mg
