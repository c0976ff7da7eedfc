/-
  The walk of the law ScheduleSteps.
-/
import Derived.Test.YtainmmdlbajpnaaScJ
namespace Go.Proofs.Ytainmmdlbajpnaa.Sc
open Go.RowKit Go.Proofs.Ytainmmdlbajpnaa Go.Proofs.Ytainmmdlbajpnaa.Ls Go.Proofs.Ytainmmdlbajpnaa.Kb
open Go.Proofs.Ytainmmdlbajpnaa.Dt hiding ret_bool ret_int

set_option maxRecDepth 100000 in
set_option maxHeartbeats 4000000 in
theorem steps_walk (s : Sch) {w : World} (hS : SchAt w s) (_hU : SchU s) :
    Calls Try.prog 3 #[.agg s.cells] w fun e w' => e = .returned (.bool true) ∧ Below w.heap.size w w' := by
  obtain ⟨L, g, hR⟩ := dres_exists s
  have HD := Lib.hid (fun (w' : World) (h : SchAt w' s) => dates_any s L g w' h hR)
  have HS := Lib.hid hS
  have HR := Lib.hid hR
  have hlen := hS.len
  clear hS hR
  have HAM := Lib.hid (fun y m d N k w h a b => am_at s y m d N k w h a b)
  have HX : Hid (s.cells = s.cells) := rfl
  obtain ⟨S, E, Mo, back, last, stub, roll, wk, a, c, hs⟩ := s
  have hx := blk_new w (.cells #[.int .i64 S, .int .i64 E, .int .i64 Mo, .bool back, .bool last, .int .u8 stub, .int .u8 roll, .int .u8 wk, .slice a hs.length c] 26)
  have hbo : Below w.heap.size w (w.alloc (.cells #[.int .i64 S, .int .i64 E, .int .i64 Mo, .bool back, .bool last, .int .u8 stub, .int .u8 roll, .int .u8 wk, .slice a hs.length c] 26)) := (Below.refl _ _).alloc (Nat.le_refl _) _
  simp only [Sch.cells] at *
  go_enter Try.func3, Try.ntmps3
  go_wp2_with fail
  generalize w.alloc _ = wo at hx hbo ⊢
  refine (alive_any wo).mono ?_
  rintro e w1 ⟨rfl, hb1⟩
  have hx := blk_keep hx hb1
  have c1 := bt hbo hb1 (Nat.le_refl _)
  have x7 := cell_of hx 7 _ rfl
  have x8 := cell_of hx 8 _ rfl
  go_wp2_with fail
  refine (great_any wk a hs.length c w1 hlen).mono ?_
  rintro e w2 ⟨rfl, hb2⟩
  have hx := blk_keep hx hb2
  have c2 := bt c1 hb2 (Nat.le_refl _)
  clear x7 x8 hb1 hb2 hbo
  rcases hb (greatB hs.length) with hg | hg
  · rw [hg]
    clear hg
    go_wp2
    go_ret
    exact ⟨rfl, c2⟩
  rw [hg]
  clear hg
  have x0 := cell_of hx 0 _ rfl
  have x1 := cell_of hx 1 _ rfl
  have x2 := cell_of hx 2 _ rfl
  have x3 := cell_of hx 3 _ rfl
  have x4 := cell_of hx 4 _ rfl
  have x5 := cell_of hx 5 _ rfl
  have x6 := cell_of hx 6 _ rfl
  have x7 := cell_of hx 7 _ rfl
  have x8 := cell_of hx 8 _ rfl
  go_wp2_with fail
  refine (HD.out w2 (HS.out.below c2)).mono ?_
  rintro e w3 ⟨da, dc, rfl, ho, hb3⟩
  have HX := Lib.hid (blk_keep hx hb3)
  have c3 := bt c2 hb3 (Nat.le_refl _)
  have HO := Lib.hid (ho.sl ic_len).1
  clear x0 x1 x2 x3 x4 x5 x6 x7 x8 hb3 hx ho HD
  rcases HR.out with ⟨_, rfl, rfl⟩ | ⟨y, m, d, N, hY, ⟨hk, rfl, rfl⟩ | ⟨_, rfl, rfl⟩⟩
  · clear HR
    go_wp2
    go_ret
    exact ⟨rfl, c3⟩
  · have hn := kn_le ⟨S, E, Mo, back, last, stub, roll, wk, a, c, hs⟩ y m d N
    obtain ⟨g0, g1, g2, g3, g4, g5, g6, g7⟩ := sch_facts hY.ok
    simp only at g1 g2 g3 g4 g5 g6 g7
    have HL := Lib.hid (dl_len ⟨S, E, Mo, back, last, stub, roll, wk, a, c, hs⟩ y m d (kn ⟨S, E, Mo, back, last, stub, roll, wk, a, c, hs⟩ y m d N))
    have H0 := Lib.hid (dl_zero ⟨S, E, Mo, back, last, stub, roll, wk, a, c, hs⟩ y m d (kn ⟨S, E, Mo, back, last, stub, roll, wk, a, c, hs⟩ y m d N))
    have HE := Lib.hid (dl_last ⟨S, E, Mo, back, last, stub, roll, wk, a, c, hs⟩ y m d (kn ⟨S, E, Mo, back, last, stub, roll, wk, a, c, hs⟩ y m d N))
    have HM := Lib.hid (dl_mid ⟨S, E, Mo, back, last, stub, roll, wk, a, c, hs⟩ y m d (kn ⟨S, E, Mo, back, last, stub, roll, wk, a, c, hs⟩ y m d N))
    have HT := Lib.hid (dl_lt (s := ⟨S, E, Mo, back, last, stub, roll, wk, a, c, hs⟩) hY hn)
    rw [HL.out]
    generalize dL ⟨S, E, Mo, back, last, stub, roll, wk, a, c, hs⟩ y m d _ = L at HL H0 HE HM HT HO HR ⊢
    generalize kn ⟨S, E, Mo, back, last, stub, roll, wk, a, c, hs⟩ y m d N = n at HL H0 HE HM HT hn hk ⊢
    clear HR
    have HY := Lib.hid hY
    clear hY g0 hlen
    go_wp2_with fail
    go_loopw [6, 7, 8, 9, 10, 11] (fun i _ _ _ _ _ wr => ∃ k : Nat, 1 ≤ k ∧ k ≤ n + 1 ∧ i = .int .i64 k ∧ Below w.heap.size w wr ∧ Below w3.heap.size w3 wr) (fun i _ _ _ _ _ _ => n + 1 - (intOf i).toNat)
    case atStart => exact ⟨1, by omega, by omega, rfl, c3, Below.refl _ _⟩
    case round =>
      obtain ⟨k, hk1, hk2, rfl, hbw, hb3⟩ := hrel
      have hx := blk_keep HX.out hb3
      have x0 := cell_of hx 0 _ rfl
      have x1 := cell_of hx 1 _ rfl
      have x2 := cell_of hx 2 _ rfl
      have x3 := cell_of hx 3 _ rfl
      have x4 := cell_of hx 4 _ rfl
      clear hx
      rcases Nat.lt_or_ge k (n + 1) with hlt | hge
      · obtain ⟨b, off, rfl, _⟩ := at_int (HO.out.below hb3) k (by rw [HL.out]; omega)
        have hT1 := HT.out (k - 1) (by omega)
        rw [show k - 1 + 1 = k by omega] at hT1
        have hT2 := HT.out k (by omega)
        have hbd := mul_bd k Mo (by omega) (by omega) (by omega)
        have hbd2 := mul_bd k (-Mo) (by omega) (by omega) (by omega)
        have hk3 : ((k - 1 : Nat) : Int) = (k : Int) - 1 := by omega
        have hk4 : (k : Int) + 1 < (n : Int) + 2 := by omega
        have hk5 : (1 : Int) ≤ k := by omega
        have hk6 : (k : Int) < (n : Int) + 2 := by omega
        have hk8 : (0 : Int) < k := by omega
        have hk14 : IntKind.i64.wrap ((k : Int) - 1) = (k : Int) - 1 := by rw [IntKind.wrap_i64]; omega
        have hk16 : IntKind.i64.wrap ((k : Int) + 1) = (k : Int) + 1 := by rw [IntKind.wrap_i64]; omega
        have hk17 : (0 : Int) ≤ (k : Int) + 1 := by omega
        have hk18 : ((k : Int) + 1).toNat = k + 1 := by omega
        have hk19 : (k : Int) < (n : Int) + 1 := by omega
        have hk20 : (k : Int) + 1 ≤ (n : Int) + 1 := by omega
        have hk21 : (k : Int) ≤ (n : Int) := by omega
        have hk15 : ((n : Int) + 2).toNat = n + 2 := by omega
        have hk10 : (k : Int) ≤ (n : Int) + 2 := by omega
        have hk11 : (k : Int) ≤ (n : Int) + 2 - 1 := by omega
        have hk12 : (n : Int) + 2 - 1 - k < (n : Int) + 2 := by omega
        have hk13 : (n : Int) + 2 - 1 < (n : Int) + 2 + k := by omega
        have hk9 : ((k : Int) - 1).toNat = k - 1 := by omega
        have hk7 : (k : Int) - 1 < (n : Int) + 2 := by omega
        have hbs := hbw.size
        have hb3s := hb3.size
        cases back
        · focus
            have hval : vk y m d (Sch.mk S E Mo false last stub roll wk a c hs).step last k = L.getD k 0 := (HM.out k hk1 (by omega)).symm
            have HVK := Lib.hid hval
            clear hval
            go_wp2_with fail
            go_quiet (fail)
            go_wp2_with fail
            refine Calls.mono (HAM.out y m d N k _ HY.out hk1 (by omega)) ?_
            rintro e w5 ⟨rfl, hb5⟩
            have c5 := bt (below_drewN hbw _) hb5 (Nat.le_refl _)
            have d5 := bt (below_drewN hb3 _) hb5 (Nat.le_refl _)
            rw [HVK.out]
            clear x0 x1 x2 x3 x4 hb5 hbw hb3
            have qk := at_int' (HO.out.below d5) k (by rw [HL.out]; omega)
            have qp := at_int' (HO.out.below d5) (k - 1) (by rw [HL.out]; omega)
            have qn := at_int' (HO.out.below d5) (k + 1) (by rw [HL.out]; omega)
            generalize L.getD k 0 = Xk at *
            generalize L.getD (k - 1) 0 = Xp at *
            generalize L.getD (k + 1) 0 = Xn at *
            go_wp2_with fail
            go_quiet (fail)
            go_wp2
            go_roundw
            case rel => exact ⟨k + 1, by omega, by omega, by go_num, below_drewN c5 _, below_drewN d5 _⟩
            case measure => simp [intOf]; omega
        · focus
            have hval : vk y m d (Sch.mk S E Mo true last stub roll wk a c hs).step last k = L.getD (n + 1 - k) 0 := by
              rw [HM.out (n + 1 - k) (by omega) (by omega)]
              show _ = vk y m d _ last (n + 1 - (n + 1 - k))
              rw [show n + 1 - (n + 1 - k) = k by omega]
            have harg : -(k : Int) * Mo = (k : Int) * (Sch.mk S E Mo true last stub roll wk a c hs).step := by
              show _ = (k : Int) * (-Mo)
              rw [Int.mul_neg, Int.neg_mul]
            have HVK := Lib.hid hval
            have HAR := Lib.hid harg
            have hbd3 : -5000000 ≤ -(k : Int) * Mo ∧ -(k : Int) * Mo ≤ 5000000 := by rw [Int.neg_mul]; rw [Int.mul_neg] at hbd2; exact hbd2
            clear hval harg
            go_wp2_with fail
            go_quiet (fail)
            go_wp2_with fail
            go_quiet (fail)
            go_wp2_with fail
            rw [HAR.out]
            refine Calls.mono (HAM.out y m d N k _ HY.out hk1 (by omega)) ?_
            rintro e w5 ⟨rfl, hb5⟩
            have c5 := bt (below_drewN hbw _) hb5 (Nat.le_refl _)
            have d5 := bt (below_drewN hb3 _) hb5 (Nat.le_refl _)
            rw [HVK.out]
            clear x0 x1 x2 x3 x4 hb5 hbw hb3
            have qk := at_int' (HO.out.below d5) k (by rw [HL.out]; omega)
            have qp := at_int' (HO.out.below d5) (k - 1) (by rw [HL.out]; omega)
            have qn := at_int' (HO.out.below d5) (k + 1) (by rw [HL.out]; omega)
            have qv := at_int' (HO.out.below d5) (n + 2 - 1 - k) (by rw [HL.out]; omega)
            rw [show n + 1 - k = n + 2 - 1 - k by omega]
            have qv2 := qv
            rw [show off + (n + 2 - 1 - k) = off + (n + 1 - k) by omega] at qv2
            generalize L.getD (n + 2 - 1 - k) 0 = Xv at *
            generalize L.getD k 0 = Xk at *
            generalize L.getD (k - 1) 0 = Xp at *
            generalize L.getD (k + 1) 0 = Xn at *
            go_wp2_with fail
            go_quiet (fail)
            go_wp2
            go_roundw
            case rel => exact ⟨k + 1, by omega, by omega, by go_num, below_drewN c5 _, below_drewN d5 _⟩
            case measure => simp [intOf]; omega
      · obtain rfl : k = n + 1 := by omega
        obtain ⟨b, off, rfl, q0⟩ := at_int (HO.out.below hb3) 0 (by rw [HL.out]; omega)
        have qe := at_int' (HO.out.below hb3) (n + 1) (by rw [HL.out]; omega)
        rw [H0.out, Nat.add_zero] at q0
        rw [HE.out] at qe
        go_wp2_with fail
        go_quiet (fail)
        go_wp2
        go_ret
        exact ⟨ret_bool (by simp), below_drewN hbw _⟩
  · clear HR
    go_wp2
    go_ret
    exact ⟨rfl, c3⟩

end Go.Proofs.Ytainmmdlbajpnaa.Sc
