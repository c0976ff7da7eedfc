/-
  Margin: the walks of margin.Base, Worst, Loss, AddOn, Margin.
-/
import Derived.Test.YtmljjofpbonplaaMg8
namespace Go.Proofs.Ytmljjofpbonplaa.Mg
open Go.RowKit Go.Proofs.Ytmljjofpbonplaa Go.Proofs.Ytmljjofpbonplaa.Nm

set_option maxRecDepth 100000 in
set_option maxHeartbeats 1000000 in
theorem base_any (g : Gr) (l : Pf) (w : World) (hG : GrAt w g) (hL : PfAt w l) :
    Calls Try.prog 16 #[.agg #[.slice g.wa g.nw g.wc, .slice g.pa g.np g.pc], .slice l.a l.n l.c] w fun e w' => e = .returned (.tuple #[.int .i64 (wBase g l), .int .i64 (errV (fit g l))]) ∧ Below w.heap.size w w' := by
  have hbo : Below w.heap.size w (w.alloc (.cells #[.slice g.wa g.nw g.wc, .slice g.pa g.np g.pc] 25)) := (Below.refl _ _).alloc (Nat.le_refl _) _
  have HW := Lib.hid (worst_any g l _ (hG.below hbo) (hL.below hbo))
  have HB := Lib.hid hbo
  clear hG hL hbo
  go_enter Try.func16, Try.ntmps16
  go_wp2_with fail
  refine HW.out.mono ?_
  rintro e w1 ⟨rfl, hb1⟩
  have c1 := bt HB.out hb1 (by simp)
  clear HB HW hb1
  go_wp2
  go_ret2
  exact ⟨rfl, c1⟩

set_option maxRecDepth 100000 in
set_option maxHeartbeats 1000000 in
theorem worstAt_any (g : Gr) (l : Pf) (w : World) (hG : GrAt w g) (hL : PfAt w l) :
    Calls Try.prog 18 #[.agg #[.slice g.wa g.nw g.wc, .slice g.pa g.np g.pc], .slice l.a l.n l.c] w fun e w' => e = .returned (.tuple #[.int .i64 (wAt g l), .int .i64 (errV (fit g l))]) ∧ Below w.heap.size w w' := by
  have hbo : Below w.heap.size w (w.alloc (.cells #[.slice g.wa g.nw g.wc, .slice g.pa g.np g.pc] 25)) := (Below.refl _ _).alloc (Nat.le_refl _) _
  have HW := Lib.hid (worst_any g l _ (hG.below hbo) (hL.below hbo))
  have HB := Lib.hid hbo
  clear hG hL hbo
  go_enter Try.func18, Try.ntmps18
  go_wp2_with fail
  refine HW.out.mono ?_
  rintro e w1 ⟨rfl, hb1⟩
  have c1 := bt HB.out hb1 (by simp)
  clear HB HW hb1
  go_wp2
  go_ret2
  exact ⟨rfl, c1⟩

/-- the loss, and the error, as Loss returns them -/
def lossV (g : Gr) (l : Pf) (s : Int) : Int := if fit g l = true ∧ 0 ≤ s ∧ s < g.nw then loss g l s.toNat else 0
def lossE (g : Gr) (l : Pf) (s : Int) : Int := if fit g l = true then if 0 ≤ s ∧ s < g.nw then 0 else 2 else 8

set_option maxRecDepth 100000 in
set_option maxHeartbeats 1000000 in
theorem loss_any (g : Gr) (l : Pf) (s : Int) (w : World) (hG : GrAt w g) (hL : PfAt w l) :
    Calls Try.prog 14 #[.agg #[.slice g.wa g.nw g.wc, .slice g.pa g.np g.pc], .slice l.a l.n l.c, .int .i64 s] w fun e w' => e = .returned (.tuple #[.int .i64 (lossV g l s), .int .i64 (lossE g l s)]) ∧ Below w.heap.size w w' := by
  have HG := Lib.hid hG
  have HL := Lib.hid hL
  clear hG hL
  have hx0 := blk_new w (.cells #[.slice g.wa g.nw g.wc, .slice g.pa g.np g.pc] 25)
  have hbo : Below w.heap.size w (w.alloc (.cells #[.slice g.wa g.nw g.wc, .slice g.pa g.np g.pc] 25)) := (Below.refl _ _).alloc (Nat.le_refl _) _
  rcases hb (fit g l) with hf | hf
  · have HF := Lib.hid hf
    have hnw : g.nw ≤ 50 := (fit_ok hf).g.w50
    by_cases hs : 0 ≤ s ∧ s < g.nw
    · obtain ⟨S, rfl⟩ : ∃ S : Nat, s = S := ⟨s.toNat, by omega⟩
      have HR := Lib.hid (show lossV g l (S : Int) = loss g l S ∧ lossE g l (S : Int) = 0 by unfold lossV lossE; rw [if_pos ⟨hf, hs⟩, if_pos hf, if_pos hs]; exact ⟨rfl, rfl⟩)
      clear hf
      go_enter Try.func14, Try.ntmps14
      go_wp2_with fail
      generalize w.alloc _ = wo at hx0 hbo ⊢
      refine (check_q g l _ (HG.out.below hbo) (HL.out.below hbo) _ HF.out).mono ?_
      rintro e w1 ⟨rfl, hb1⟩
      have c1 := bt hbo hb1 (Nat.le_refl _)
      have HX1 := Lib.hid (blk_keep hx0 hb1)
      have hev : errV true = 0 := rfl
      rw [hev]
      clear hev hx0 hbo hb1
      have x0 : w1.cell? ⟨w.heap.size, 0, none⟩ = some (.slice g.wa g.nw g.wc) := cell_of HX1.out 0 _ rfl
      have x1 : w1.cell? ⟨w.heap.size, 1, none⟩ = some (.slice g.pa g.np g.pc) := cell_of HX1.out 1 _ rfl
      go_wp2_with fail
      refine (losses_q g l _ (HG.out.below c1) (HL.out.below c1) HF.out).mono ?_
      rintro e w2 ⟨rfl, hm, hb2⟩
      have c2 := bt c1 hb2 (Nat.le_refl _)
      have o1 : w2.cell? ⟨w1.heap.size + 1, S, none⟩ = some (.int .i64 (loss g l S)) := by
        have := cell_of hm S _ (arrI_get g.nw (loss g l) S (by omega))
        simpa using this
      clear hm hb2 c1 x0 x1 HX1
      go_wp2
      go_ret2
      rw [HR.out.1, HR.out.2]
      exact ⟨rfl, c2⟩
    · have HR := Lib.hid (show lossV g l s = 0 ∧ lossE g l s = 2 by unfold lossV lossE; rw [if_neg (fun h => hs h.2), if_pos hf, if_neg hs]; exact ⟨rfl, rfl⟩)
      clear hf
      go_enter Try.func14, Try.ntmps14
      go_wp2_with fail
      generalize w.alloc _ = wo at hx0 hbo ⊢
      refine (check_q g l _ (HG.out.below hbo) (HL.out.below hbo) _ HF.out).mono ?_
      rintro e w1 ⟨rfl, hb1⟩
      have c1 := bt hbo hb1 (Nat.le_refl _)
      have HX1 := Lib.hid (blk_keep hx0 hb1)
      have hev : errV true = 0 := rfl
      rw [hev]
      clear hev hx0 hbo hb1
      have x0 : w1.cell? ⟨w.heap.size, 0, none⟩ = some (.slice g.wa g.nw g.wc) := cell_of HX1.out 0 _ rfl
      by_cases h0 : s < 0
      · clear hs
        go_wp2
        go_ret2
        rw [HR.out.1, HR.out.2]
        exact ⟨rfl, c1⟩
      · have h1 : (g.nw : Int) ≤ s := by omega
        clear hs
        go_wp2
        go_ret2
        rw [HR.out.1, HR.out.2]
        exact ⟨rfl, c1⟩
  · have HF := Lib.hid hf
    have HR := Lib.hid (show lossV g l s = 0 ∧ lossE g l s = 8 by unfold lossV lossE; rw [hf]; exact ⟨rfl, rfl⟩)
    clear hf
    go_enter Try.func14, Try.ntmps14
    go_wp2_with fail
    generalize w.alloc _ = wo at hx0 hbo ⊢
    refine (check_q g l _ (HG.out.below hbo) (HL.out.below hbo) _ HF.out).mono ?_
    rintro e w1 ⟨rfl, hb1⟩
    have c1 := bt hbo hb1 (Nat.le_refl _)
    have hev : errV false = 8 := rfl
    rw [hev]
    clear hev hx0 hbo hb1
    go_wp2
    go_ret2
    rw [HR.out.1, HR.out.2]
    exact ⟨rfl, c1⟩

/-- the add-on of the first positions -/
def addUp (P : Nat → PD) (np : Nat) (T : Nat → ByteArray) (Q : Nat → Int) : Nat → Int
  | 0 => 0
  | k + 1 => addUp P np T Q k + max (Q k) (-(Q k)) * (P (idx P np (T k))).fee
theorem Fit.fee {W : Nat → Int} {nw : Nat} {P : Nat → PD} {np : Nat} {T : Nat → ByteArray} {Q : Nat → Int} {n : Nat} (h : Fit W nw P np T Q n) (k : Nat) (hk : k < n) :
    0 ≤ max (Q k) (-(Q k)) * (P (idx P np (T k))).fee ∧ max (Q k) (-(Q k)) * (P (idx P np (T k))).fee ≤ 8796093022208 := by
  have h1 := idx_spec (h.has k hk)
  have h2 := h.g.fee _ h1.1
  have h4 := h.p.q k hk
  have h3 := mul_bd (max (Q k) (-(Q k))) (P (idx P np (T k))).fee 1048576 8388608 (by omega) (by omega)
  exact ⟨Int.mul_nonneg (by omega) h2.1, by omega⟩
theorem Fit.add {W : Nat → Int} {nw : Nat} {P : Nat → PD} {np : Nat} {T : Nat → ByteArray} {Q : Nat → Int} {n : Nat} (h : Fit W nw P np T Q n) (k : Nat) (hk : k ≤ n) :
    0 ≤ addUp P np T Q k ∧ addUp P np T Q k ≤ 8796093022208 * k := by
  induction k with
  | zero => simp [addUp]
  | succ k ih =>
    have h1 := ih (by omega)
    have h2 := h.fee k (by omega)
    rw [addUp]
    omega
def addV (g : Gr) (l : Pf) : Int := if fit g l = true then addUp g.P g.np l.T l.Q l.n else 0

set_option maxRecDepth 100000 in
set_option maxHeartbeats 1000000 in
theorem addOn_any (g : Gr) (l : Pf) (w : World) (hG : GrAt w g) (hL : PfAt w l) :
    Calls Try.prog 20 #[.agg #[.slice g.wa g.nw g.wc, .slice g.pa g.np g.pc], .slice l.a l.n l.c] w fun e w' => e = .returned (.tuple #[.int .i64 (addV g l), .int .i64 (errV (fit g l))]) ∧ Below w.heap.size w w' := by
  have HG := Lib.hid hG
  have HL := Lib.hid hL
  clear hG hL
  have hx0 := blk_new w (.cells #[.slice g.wa g.nw g.wc, .slice g.pa g.np g.pc] 25)
  have hbo : Below w.heap.size w (w.alloc (.cells #[.slice g.wa g.nw g.wc, .slice g.pa g.np g.pc] 25)) := (Below.refl _ _).alloc (Nat.le_refl _) _
  rcases hb (fit g l) with hf | hf
  · have HF := Lib.hid hf
    have HO := Lib.hid (fit_ok hf)
    have HR := Lib.hid (show addV g l = addUp g.P g.np l.T l.Q l.n by unfold addV; rw [hf]; rfl)
    have hn32 : l.n ≤ 32 := (fit_ok hf).p.n32
    obtain ⟨A, hla⟩ : ∃ A, A = l.a := ⟨_, rfl⟩
    have HLA := Lib.hid (show PosAt w A l.n l.T l.Q by rw [hla]; exact HL.out.at')
    have HCK := Lib.hid (fun wo h => check_q g l wo (HG.out.below h) (HL.out.below h) _ hf)
    rw [← hla] at HCK ⊢
    clear hf hla
    go_enter Try.func20, Try.ntmps20
    go_wp2_with fail
    generalize w.alloc _ = wo at hx0 hbo ⊢
    refine (HCK.out _ hbo).mono ?_
    rintro e w1 ⟨rfl, hb1⟩
    have c1 := bt hbo hb1 (Nat.le_refl _)
    have HX1 := Lib.hid (blk_keep hx0 hb1)
    have hev : errV true = 0 := rfl
    rw [hev]
    clear hev hx0 hbo hb1
    go_wp2_with fail
    go_loopw [7, 9, 10, 11, 20] (fun t _ _ _ c wr => ∃ k : Nat, k ≤ l.n ∧ c = .int .i64 k ∧ Hid (t = .int .i64 (addUp g.P g.np l.T l.Q k)) ∧ Below w.heap.size w wr ∧ Hid (wr.heap[w.heap.size]? = some (.cells #[.slice g.wa g.nw g.wc, .slice g.pa g.np g.pc] 25 (0, 0)))) (fun _ _ _ _ c _ => l.n - (intOf c).toNat)
    case atStart => exact ⟨0, by omega, rfl, rfl, c1, HX1⟩
    case round =>
      clear HX1 c1
      obtain ⟨k, hk, rfl, ht, hbw, HX⟩ := hrel
      obtain rfl := ht.out
      clear ht
      by_cases hlt : k < l.n
      · obtain ⟨b, off, rfl, q0, q1⟩ := (HLA.out.below hbw) k hlt
        have x0 : wr.cell? ⟨w.heap.size, 0, none⟩ = some (.slice g.wa g.nw g.wc) := cell_of HX.out 0 _ rfl
        have x1 : wr.cell? ⟨w.heap.size, 1, none⟩ = some (.slice g.pa g.np g.pc) := cell_of HX.out 1 _ rfl
        have hws : w.heap.size < wr.heap.size := World.block_lt_of_cell? _ _ x1
        have HB2 := Lib.hid (hbw.alloc hbw.size (.cells #[.string (l.T k), .int .i64 (l.Q k)] 51))
        have HX2 := Lib.hid (blk_past wr (.cells #[.string (l.T k), .int .i64 (l.Q k)] 51) HX.out)
        have HP2 := Lib.hid (blk_new wr (.cells #[.string (l.T k), .int .i64 (l.Q k)] 51))
        have HI := Lib.hid (idx_spec (HO.out.has k hlt))
        have HS := Lib.hid (show addUp g.P g.np l.T l.Q (k + 1) = addUp g.P g.np l.T l.Q k + max (l.Q k) (-(l.Q k)) * (g.P (idx g.P g.np (l.T k))).fee from rfl)
        have hS0 := HO.out.add k hk
        have hF0 := HO.out.fee k hlt
        have hQ0 := HO.out.p.q k hlt
        have hnp := HO.out.g.p32
        go_wp2_with fail
        refine (product_yes g.wa g.pa g.nw g.wc g.np g.pc g.P (l.T k) (idx g.P g.np (l.T k)) _ (by omega) (HG.out.ps.below HB2.out) HO.out.g.sorted HI.out.1 HI.out.2).mono ?_
        rintro e w3 ⟨rfl, hb3⟩
        have c3 := bt HB2.out hb3 (by simp)
        have HX3 := Lib.hid (blk_keep HX2.out hb3)
        have HP3 := Lib.hid (blk_keep HP2.out hb3)
        have HX4 := Lib.hid (blk_past w3 (.cells #[.string (l.T k), .slice (g.P (idx g.P g.np (l.T k))).a (g.P (idx g.P g.np (l.T k))).len (g.P (idx g.P g.np (l.T k))).cap, .int .i64 (g.P (idx g.P g.np (l.T k))).fee] 54) HX3.out)
        have c4 := c3.alloc c3.size (.cells #[.string (l.T k), .slice (g.P (idx g.P g.np (l.T k))).a (g.P (idx g.P g.np (l.T k))).len (g.P (idx g.P g.np (l.T k))).cap, .int .i64 (g.P (idx g.P g.np (l.T k))).fee] 54)
        have hwr3 := blk_lt HP3.out
        have p1 := cell_of HP3.out 1 _ rfl
        clear HX HX2 HP2 HB2 HP3 c3 hb3 x0 x1 q0 q1
        generalize (g.P (idx g.P g.np (l.T k))).fee = fee at *
        generalize addUp g.P g.np l.T l.Q k = S at *
        have HC4 := Lib.hid c4
        clear c4
        rcases Int.lt_or_le (l.Q k) (-(l.Q k)) with hq | hq
        · have hm : max (l.Q k) (-(l.Q k)) = -(l.Q k) := by omega
          rw [hm] at hF0
          have HS2 : Hid (addUp g.P g.np l.T l.Q (k + 1) = S + -(l.Q k) * fee) := by unfold Hid; rw [HS.out, hm]
          have hneg : IntKind.i64.wrap (-l.Q k) = -l.Q k := IntWalk.i64_in _ (by omega)
          have n1 : IntKind.i64.wrap (-(l.Q k) * fee) = -(l.Q k) * fee := IntWalk.i64_in _ (by omega)
          have n2 : IntKind.i64.wrap (S + -(l.Q k) * fee) = S + -(l.Q k) * fee := IntWalk.i64_in _ (by omega)
          clear HS hm
          go_wp2
          go_roundw
          case rel => exact ⟨k + 1, by omega, by go_num, by rw [HS2.out]; rfl, HC4.out, HX4⟩
          case measure => simp [intOf]; omega
        · have hm : max (l.Q k) (-(l.Q k)) = l.Q k := by omega
          rw [hm] at hF0
          have HS2 : Hid (addUp g.P g.np l.T l.Q (k + 1) = S + (l.Q k) * fee) := by unfold Hid; rw [HS.out, hm]
          have hneg : IntKind.i64.wrap (-l.Q k) = -l.Q k := IntWalk.i64_in _ (by omega)
          have n1 : IntKind.i64.wrap ((l.Q k) * fee) = (l.Q k) * fee := IntWalk.i64_in _ (by omega)
          have n2 : IntKind.i64.wrap (S + (l.Q k) * fee) = S + (l.Q k) * fee := IntWalk.i64_in _ (by omega)
          clear HS hm
          go_wp2
          go_roundw
          case rel => exact ⟨k + 1, by omega, by go_num, by rw [HS2.out]; rfl, HC4.out, HX4⟩
          case measure => simp [intOf]; omega
      · obtain rfl : k = l.n := by omega
        go_wp2
        go_ret2
        rw [HR.out, HF.out]
        exact ⟨rfl, hbw⟩
  · have HF := Lib.hid hf
    have HR := Lib.hid (show addV g l = 0 by unfold addV; rw [hf]; rfl)
    clear hf
    go_enter Try.func20, Try.ntmps20
    go_wp2_with fail
    generalize w.alloc _ = wo at hx0 hbo ⊢
    refine (check_q g l _ (HG.out.below hbo) (HL.out.below hbo) _ HF.out).mono ?_
    rintro e w1 ⟨rfl, hb1⟩
    have c1 := bt hbo hb1 (Nat.le_refl _)
    have hev : errV false = 8 := rfl
    rw [hev]
    clear hev hx0 hbo hb1
    go_wp2
    go_ret2
    rw [HR.out, HF.out]
    exact ⟨rfl, c1⟩
end Go.Proofs.Ytmljjofpbonplaa.Mg
