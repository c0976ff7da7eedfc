/-
  The reference: the walks of Regular, Stub.
-/
import Derived.Test.YtainmmdlbajpnaaScR
namespace Go.Proofs.Ytainmmdlbajpnaa.Sc
open Go.RowKit Go.Proofs.Ytainmmdlbajpnaa Go.Proofs.Ytainmmdlbajpnaa.Ls Go.Proofs.Ytainmmdlbajpnaa.Kb
open Go.Proofs.Ytainmmdlbajpnaa.Dt hiding ret_bool ret_int

/-- how far the reference counts -/
def regN (N : Nat) : Nat := if N ≤ 100 then N else 101

set_option maxRecDepth 100000 in
set_option maxHeartbeats 2000000 in
theorem regular_ref (s : Sch) (y m d : Int) (N : Nat) (w : World) (hY : DYes s y m d N) :
    Calls Try.prog 34 #[.agg s.cells] w fun e w' => e = .returned (.int .i64 (regN N)) ∧ Below w.heap.size w w' := by
  obtain ⟨g0, g1, g2, g3, g4, g5, g6, g7⟩ := sch_facts hY.ok
  have hf : s.from ≤ 99999 := by
    unfold Sch.from
    split <;> omega
  have HST := Lib.hid (fun (k : Nat) (w : World) (h : k ≤ 3999) => show Calls Try.prog 36 #[.agg s.cells, .int .i64 ((k : Int) + 1)] w _ from step_any s y m d (k + 1) w hY.dt hf ⟨g4, g5⟩ (by omega))
  have HY := Lib.hid (fun (k : Nat) (h : k + 1 ≤ N) => inB_yes hY (by omega) h)
  have HN := Lib.hid (inB_no hY)
  have HR := Lib.hid (show regN N = if N ≤ 100 then N else 101 from rfl)
  clear hY g0 hf
  generalize regN N = r at HR ⊢
  obtain ⟨S, E, Mo, back, last, stub, roll, wk, a, c, hs⟩ := s
  simp only [Sch.cells] at *
  have hbo : Below w.heap.size w (w.alloc (.cells #[.int .i64 S, .int .i64 E, .int .i64 Mo, .bool back, .bool last, .int .u8 stub, .int .u8 roll, .int .u8 wk, .slice a hs.length c] 26)) := (Below.refl _ _).alloc (Nat.le_refl _) _
  have hx := blk_new w (.cells #[.int .i64 S, .int .i64 E, .int .i64 Mo, .bool back, .bool last, .int .u8 stub, .int .u8 roll, .int .u8 wk, .slice a hs.length c] 26)
  go_enter Try.func34, Try.ntmps34
  go_wp2_with fail
  generalize w.alloc _ = wo at hx hbo ⊢
  have HX0 := Lib.hid hx
  clear hx
  go_loopw [3, 4, 5] (fun i _ _ wr => ∃ k : Nat, k ≤ N ∧ k ≤ 101 ∧ i = .int .i64 k ∧ Below w.heap.size w wr ∧ Hid (wr.heap[w.heap.size]? = some (.cells #[.int .i64 S, .int .i64 E, .int .i64 Mo, .bool back, .bool last, .int .u8 stub, .int .u8 roll, .int .u8 wk, .slice a hs.length c] 26 (0, 0)))) (fun i _ _ _ => 101 - (intOf i).toNat)
  case atStart => exact ⟨0, by omega, by omega, rfl, hbo, HX0⟩
  case round =>
    clear HX0 hbo
    obtain ⟨k, hk1, hk2, rfl, hbw, HX⟩ := hrel
    have hx := HX.out
    have x0 := cell_of hx 0 _ rfl
    have x1 := cell_of hx 1 _ rfl
    have x2 := cell_of hx 2 _ rfl
    have x3 := cell_of hx 3 _ rfl
    have x4 := cell_of hx 4 _ rfl
    have x5 := cell_of hx 5 _ rfl
    have x6 := cell_of hx 6 _ rfl
    have x7 := cell_of hx 7 _ rfl
    have x8 := cell_of hx 8 _ rfl
    clear hx
    rcases Nat.lt_or_ge k 101 with hlt | hge
    · have hk3 : (k : Int) ≤ 100 := by omega
      go_wp2_with fail
      refine Calls.mono (HST.out k wr (by omega)) ?_
      rintro e w1 ⟨rfl, hb1⟩
      have c1 := bt hbw hb1 (Nat.le_refl _)
      have HX1 := Lib.hid (blk_keep HX.out hb1)
      clear x0 x1 x2 x3 x4 x5 x6 x7 x8 hb1 HX
      rcases Nat.lt_or_ge k N with hkN | hkN
      · rw [HY.out k (by omega)]
        go_wp2
        go_roundw
        case rel => exact ⟨k + 1, by omega, by omega, by go_num, c1, HX1⟩
        case measure => simp [intOf]; omega
      · obtain rfl : k = N := by omega
        rw [HN.out]
        go_wp2
        go_ret
        refine ⟨ret_int ?_, c1⟩
        rw [HR.out, if_pos (by omega)]
    · obtain rfl : k = 101 := by omega
      go_wp2
      go_ret
      refine ⟨ret_int ?_, hbw⟩
      rw [HR.out, if_neg (by omega)]

set_option maxRecDepth 100000 in
set_option maxHeartbeats 2000000 in
theorem stub_ref (s : Sch) (y m d : Int) (N : Nat) (w : World) (hY : DYes s y m d N) (hN : N ≤ 100) :
    Calls Try.prog 35 #[.agg s.cells] w fun e w' => e = .returned (.bool (stubB y m d s.step s.last s.other N)) ∧ Below w.heap.size w w' := by
  obtain ⟨g0, g1, g2, g3, g4, g5, g6, g7⟩ := sch_facts hY.ok
  have hf : s.from ≤ 99999 := by
    unfold Sch.from
    split <;> omega
  have HRG := Lib.hid (fun w => regular_ref s y m d N w hY)
  have hr : regN N = N := by unfold regN; rw [if_pos hN]
  rw [hr] at HRG
  have HAM := Lib.hid (fun w => ram y m d s.from (((N + 1 : Nat) : Int) * s.step) s.last w hY.dt hf)
  have HV : Hid (addV y m d (((N + 1 : Nat) : Int) * s.step) s.last = vk y m d s.step s.last (N + 1) ∧ addOk y m d (((N + 1 : Nat) : Int) * s.step) s.last = ok y m d s.step s.last (N + 1)) := ⟨rfl, rfl⟩
  rw [HV.out.1, HV.out.2] at HAM
  have HSB := Lib.hid (show stubB y m d s.step s.last s.other N = (!ok y m d s.step s.last (N + 1) || vk y m d s.step s.last (N + 1) != s.other) from rfl)
  generalize stubB y m d s.step s.last s.other N = sb at HSB ⊢
  generalize vk y m d s.step s.last (N + 1) = v at HAM HSB
  generalize ok y m d s.step s.last (N + 1) = o at HAM HSB
  have hbd := mul_bd (N + 1) s.Mo (by omega) (by omega) (by omega)
  have hbd2 := mul_bd (N + 1) (-s.Mo) (by omega) (by omega) (by omega)
  have hc : ((N + 1 : Nat) : Int) = (N : Int) + 1 := by omega
  rw [hc] at HAM hbd hbd2
  clear HV hr hY g0 hf hc
  obtain ⟨S, E, Mo, back, last, stub, roll, wk, a, c, hs⟩ := s
  simp only [Sch.cells] at *
  have hbo : Below w.heap.size w (w.alloc (.cells #[.int .i64 S, .int .i64 E, .int .i64 Mo, .bool back, .bool last, .int .u8 stub, .int .u8 roll, .int .u8 wk, .slice a hs.length c] 26)) := (Below.refl _ _).alloc (Nat.le_refl _) _
  have hx := blk_new w (.cells #[.int .i64 S, .int .i64 E, .int .i64 Mo, .bool back, .bool last, .int .u8 stub, .int .u8 roll, .int .u8 wk, .slice a hs.length c] 26)
  go_enter Try.func35, Try.ntmps35
  go_wp2_with fail
  generalize w.alloc _ = wo at hx hbo ⊢
  refine Calls.mono (HRG.out wo) ?_
  rintro e w1 ⟨rfl, hb1⟩
  have c1 := bt hbo hb1 (Nat.le_refl _)
  have hx := blk_keep hx hb1
  have x0 := cell_of hx 0 _ rfl
  have x1 := cell_of hx 1 _ rfl
  have x2 := cell_of hx 2 _ rfl
  have x3 := cell_of hx 3 _ rfl
  have x4 := cell_of hx 4 _ rfl
  clear hbo hb1 HRG hx
  cases back
  · go_wp2_with fail
    refine Calls.mono (HAM.out _) ?_
    rintro e w2 ⟨g, rfl, ho, rfl⟩
    rcases ho with ⟨rfl, rfl⟩ | ⟨rfl, hg⟩
    · go_wp2
      go_ret
      refine ⟨ret_bool ?_, c1⟩
      rw [HSB.out]
      rfl
    · rcases hg with rfl | rfl
      all_goals
        go_wp2
        go_ret
        refine ⟨ret_bool ?_, c1⟩
        rw [HSB.out]
        rfl
  · have harg : -((N : Int) + 1) * Mo = ((N : Int) + 1) * (Sch.mk S E Mo true last stub roll wk a c hs).step := by
      show _ = ((N : Int) + 1) * (-Mo)
      rw [Int.mul_neg, Int.neg_mul]
    have HAR := Lib.hid harg
    have hbd3 : -5000000 ≤ -((N : Int) + 1) * Mo ∧ -((N : Int) + 1) * Mo ≤ 5000000 := by rw [Int.neg_mul]; rw [Int.mul_neg] at hbd2; exact hbd2
    clear harg
    go_wp2_with fail
    rw [HAR.out]
    refine Calls.mono (HAM.out _) ?_
    rintro e w2 ⟨g, rfl, ho, rfl⟩
    rcases ho with ⟨rfl, rfl⟩ | ⟨rfl, hg⟩
    · go_wp2
      go_ret
      refine ⟨ret_bool ?_, c1⟩
      rw [HSB.out]
      rfl
    · rcases hg with rfl | rfl
      all_goals
        go_wp2
        go_ret
        refine ⟨ret_bool ?_, c1⟩
        rw [HSB.out]
        rfl

end Go.Proofs.Ytainmmdlbajpnaa.Sc
