/-
  Collateral: the walks of CheckTable, the program's and the reference's.
-/
import Derived.Test.YtbfgnkakcnhojaaCo7
namespace Go.Proofs.Ytbfgnkakcnhojaa.Co
open Go.RowKit Go.Proofs.Ytbfgnkakcnhojaa Go.Proofs.Ytbfgnkakcnhojaa.Ls Go.Proofs.Ytbfgnkakcnhojaa.Kb
open Go.Proofs.Ytbfgnkakcnhojaa.Nm hiding ret_bool ret_int


set_option maxRecDepth 100000 in
set_option maxHeartbeats 16000000 in
theorem table_any (aA aI : Option Addr) (cA cI : Nat) (A : List As) (I : List (ByteArray × Int)) (w : World) (hnA : A.length ≤ 1000) (hnI : I.length ≤ 1000) (hZA : SzA A) (hZI : SzL I) (hA : AtL w 6 asc aA A) (hI : AtL w 2 isc aI I) :
    Calls Try.prog 23 #[.agg #[.slice aA A.length cA, .slice aI I.length cI]] w fun e w' => e = .returned (.int .i64 (eV (tabB A I))) ∧ Below w.heap.size w w' := by
  have HA := Lib.hid hA
  have HI := Lib.hid hI
  have HZA := Lib.hid (show ∀ i, (ga A i).nm.size ≤ maxLen ∧ (ga A i).iss.size ≤ maxLen from hZA)
  have HZI := Lib.hid (show ∀ i, (gi I i).1.size ≤ maxLen from hZI)
  have HEI := Lib.hid (show ∀ k, issE I k = (nm (gi I k).1 && decide (0 ≤ (gi I k).2 ∧ (gi I k).2 ≤ 1125899906842624) && (!decide ((0 : Int) < (k : Int)) || Op.bytesLess (gi I (k - 1)).1.toList (gi I k).1.toList)) from fun _ => rfl)
  have HEA := Lib.hid (show ∀ k, assE A I k = (nm (ga A k).nm && (fnI I (ga A k).iss).isSome && (decide (0 ≤ (ga A k).pr) && decide ((ga A k).pr ≤ 33554432) && (decide (0 ≤ (ga A k).hc) && decide ((ga A k).hc ≤ 1000)) && decide (0 ≤ (ga A k).mo ∧ (ga A k).mo ≤ 1125899906842624)) && (!decide ((0 : Int) < (k : Int)) || Op.bytesLess (ga A (k - 1)).nm.toList (ga A k).nm.toList)) from fun _ => rfl)
  obtain ⟨W, hW⟩ : ∃ W, W = tabB A I := ⟨_, rfl⟩
  rw [← hW]
  have hbo : Below w.heap.size w (w.alloc (.cells #[.slice aA A.length cA, .slice aI I.length cI] 25)) := (Below.refl _ _).alloc (Nat.le_refl _) _
  by_cases hA32 : A.length ≤ 32
  case neg =>
    have hgt : (32 : Int) < A.length := by omega
    have HW := Lib.hid (show W = false by rw [hW]; unfold tabB; rw [decide_eq_false hA32]; simp)
    clear hA hI hZA hZI hW hA32
    go_enter Try.func23, Try.ntmps23
    go_wp2
    go_ret
    exact ⟨ret_int (by rw [HW.out]; rfl), hbo⟩
  by_cases hI32 : I.length ≤ 32
  case neg =>
    have hle : (A.length : Int) ≤ 32 := by omega
    have hgt : (32 : Int) < I.length := by omega
    have HW := Lib.hid (show W = false by rw [hW]; unfold tabB; rw [decide_eq_false hI32]; simp)
    clear hA hI hZA hZI hW hI32 hA32
    go_enter Try.func23, Try.ntmps23
    go_wp2
    go_ret
    exact ⟨ret_int (by rw [HW.out]; rfl), hbo⟩
  have HW := Lib.hid (show W = (allB I.length (issE I) && allB A.length (assE A I)) by rw [hW]; unfold tabB; rw [decide_eq_true hA32, decide_eq_true hI32]; simp)
  have hleA : (A.length : Int) ≤ 32 := by omega
  have hleI : (I.length : Int) ≤ 32 := by omega
  have HX0 := Lib.hid (blk_new w (.cells #[.slice aA A.length cA, .slice aI I.length cI] 25))
  clear hA hI hZA hZI hW hA32 hI32
  go_enter Try.func23, Try.ntmps23
  go_wp2_with fail
  generalize w.alloc _ = wo at hbo HX0 ⊢
  have hx00 : wo.cell? ⟨w.heap.size, 0, none⟩ = some (.slice aA A.length cA) := cell_of HX0.out 0 _ rfl
  have hx01 : wo.cell? ⟨w.heap.size, 1, none⟩ = some (.slice aI I.length cI) := cell_of HX0.out 1 _ rfl
  go_loopw [3, 4, 23] (fun _ _ i wr => ∃ k : Nat, k ≤ I.length ∧ i = .int .i64 k ∧ Hid (∀ i, i < k → issE I i = true) ∧ Below w.heap.size w wr ∧ Hid (wr.heap[w.heap.size]? = some (.cells #[.slice aA A.length cA, .slice aI I.length cI] 25 (0, 0)))) (fun _ _ i _ => I.length - (intOf i).toNat)
  case atStart => exact ⟨0, by omega, rfl, fun i hi => by omega, hbo, HX0⟩
  case round =>
    clear hbo HX0 hx00 hx01
    obtain ⟨k, hk, rfl, HG, hbw, HX⟩ := hrel
    have hx0 : wr.cell? ⟨w.heap.size, 0, none⟩ = some (.slice aA A.length cA) := cell_of HX.out 0 _ rfl
    have hx1 : wr.cell? ⟨w.heap.size, 1, none⟩ = some (.slice aI I.length cI) := cell_of HX.out 1 _ rfl
    have hxl := blk_lt HX.out
    by_cases hlt : k < I.length
    · have hki : (k : Int) < I.length := by omega
      obtain ⟨lb, lo, rfl, q0, q1⟩ := at_is (HI.out.below hbw) k hlt
      have q2 := (at_is' (HI.out.below hbw) (k - 1) (by omega)).1
      have HEL := Lib.hid (HEI.out k)
      have HZ := Lib.hid (HZI.out k)
      change _ = some (Value.string (gi I k).1) at q0
      change _ = some (Value.int .i64 (gi I k).2) at q1
      change _ = some (Value.string (gi I (k - 1)).1) at q2
      generalize (gi I (k - 1)).1 = p at HEL q2
      generalize gi I k = x at HEL HZ q0 q1
      have hbs : lb < wr.heap.size := World.block_lt_of_cell? _ _ q0
      have hbz : Below w.heap.size w (wr.alloc (.cells #[.string x.1, .int .i64 x.2] 50)) := hbw.alloc hbw.size _
      rcases hb (nm x.1) with h1 | h1
      ·
        rcases hb (decide (0 ≤ x.2 ∧ x.2 ≤ 1125899906842624)) with h2 | h2
        ·
          rcases hb (decide ((0 : Int) < (k : Int))) with h4 | h4
          ·
            rcases hb (Op.bytesLess p.toList x.1.toList) with h5 | h5
            ·
              have HE := Lib.hid (show issE I k = true by rw [HEL.out, h1, h2, h4, h5]; simp)
              have HG2 := Lib.hid (succ_all HG.out HE.out)
              have hk1 : (0 : Int) < (k : Int) := of_decide_eq_true h4
              have hk2 : (1 : Int) ≤ (k : Int) := hk1
              have hk3 : (0 : Int) ≤ (k : Int) - 1 := by omega
              have hk4 : (k : Int) - 1 < (I.length : Int) := by omega
              have hk5 : IntKind.i64.wrap ((k : Int) - 1) = (k : Int) - 1 := IntWalk.i64_in _ (by omega)
              have hk6 : ((k : Int) - 1).toNat = k - 1 := by omega
              have hk0 : decide (0 < k) = true := decide_eq_true (by omega)
              have hk7 : (k : Int) ≤ (I.length : Int) := by omega
              go_wp2_with fail
              go_big_quiet ((first | (go_at_call 44; exact Calls.quiet_of_same (name_q _ _ _ HZ.out h1)) | (go_at_call 41; exact Calls.quiet_of_same (money_any _ _ _ h2))))
              go_wp2
              go_roundw
              case rel => exact ⟨k + 1, by omega, by go_num, HG2, below_drewN hbz _, Lib.hid (blk_past wr _ HX.out)⟩
              case measure => simp [intOf]; omega
            ·
              have HE := Lib.hid (show issE I k = false by rw [HEL.out, h1, h2, h4, h5]; simp)
              have HBAD := Lib.hid (show allB I.length (issE I) = false from allB_no k hlt HE.out)
              have hk1 : (0 : Int) < (k : Int) := of_decide_eq_true h4
              have hk2 : (1 : Int) ≤ (k : Int) := hk1
              have hk3 : (0 : Int) ≤ (k : Int) - 1 := by omega
              have hk4 : (k : Int) - 1 < (I.length : Int) := by omega
              have hk5 : IntKind.i64.wrap ((k : Int) - 1) = (k : Int) - 1 := IntWalk.i64_in _ (by omega)
              have hk6 : ((k : Int) - 1).toNat = k - 1 := by omega
              have hk0 : decide (0 < k) = true := decide_eq_true (by omega)
              have hk7 : (k : Int) ≤ (I.length : Int) := by omega
              go_wp2_with fail
              go_big_quiet ((first | (go_at_call 44; exact Calls.quiet_of_same (name_q _ _ _ HZ.out h1)) | (go_at_call 41; exact Calls.quiet_of_same (money_any _ _ _ h2))))
              go_wp2
              go_ret
              exact ⟨ret_int (by rw [HW.out, HBAD.out, Bool.false_and]; rfl), below_drewN hbz _⟩
          ·
            have HE := Lib.hid (show issE I k = true by rw [HEL.out, h1, h2, h4]; simp)
            have HG2 := Lib.hid (succ_all HG.out HE.out)
            have hk0 : decide (0 < k) = false := decide_eq_false (by have := of_decide_eq_false h4; omega)
            go_wp2_with fail
            go_big_quiet ((first | (go_at_call 44; exact Calls.quiet_of_same (name_q _ _ _ HZ.out h1)) | (go_at_call 41; exact Calls.quiet_of_same (money_any _ _ _ h2))))
            go_wp2
            go_roundw
            case rel => exact ⟨k + 1, by omega, by go_num, HG2, below_drewN hbz _, Lib.hid (blk_past wr _ HX.out)⟩
            case measure => simp [intOf]; omega
        ·
          have HE := Lib.hid (show issE I k = false by rw [HEL.out, h1, h2]; simp)
          have HBAD := Lib.hid (show allB I.length (issE I) = false from allB_no k hlt HE.out)
          go_wp2_with fail
          go_big_quiet ((first | (go_at_call 44; exact Calls.quiet_of_same (name_q _ _ _ HZ.out h1)) | (go_at_call 41; exact Calls.quiet_of_same (money_any _ _ _ h2))))
          go_wp2
          go_ret
          exact ⟨ret_int (by rw [HW.out, HBAD.out, Bool.false_and]; rfl), below_drewN hbz _⟩
      ·
        have HE := Lib.hid (show issE I k = false by rw [HEL.out, h1]; simp)
        have HBAD := Lib.hid (show allB I.length (issE I) = false from allB_no k hlt HE.out)
        go_wp2_with fail
        go_big_quiet ((first | (go_at_call 44; exact Calls.quiet_of_same (name_q _ _ _ HZ.out h1)) | (go_at_call 41; exact Calls.quiet_of_same (money_any _ _ _ rfl))))
        go_wp2
        go_ret
        exact ⟨ret_int (by rw [HW.out, HBAD.out, Bool.false_and]; rfl), below_drewN hbz _⟩
    · obtain rfl : k = I.length := by omega
      have HALLI := Lib.hid (show allB I.length (issE I) = true from allB_yes HG.out)
      have HSI := Lib.hid (show Sorted I.length fun i => (gi I i).1 from elB_sorted HG.out)
      clear HG hk hlt
      go_wp2_with fail
      go_loopw [5, 6, 7, 8, 9, 58] (fun _ _ _ _ _ i wq => ∃ k : Nat, k ≤ A.length ∧ i = .int .i64 k ∧ Hid (∀ i, i < k → assE A I i = true) ∧ Below w.heap.size w wq ∧ Hid (wq.heap[w.heap.size]? = some (.cells #[.slice aA A.length cA, .slice aI I.length cI] 25 (0, 0)))) (fun _ _ _ _ _ i _ => A.length - (intOf i).toNat)
      case atStart => exact ⟨0, by omega, rfl, fun i hi => by omega, hbw, HX⟩
      case round =>
        clear hbw HX hx0 hx1 hxl
        obtain ⟨k, hk, rfl, HGA, hbw, HX⟩ := hrel
        have hx0 : wr.cell? ⟨w.heap.size, 0, none⟩ = some (.slice aA A.length cA) := cell_of HX.out 0 _ rfl
        have hx1 : wr.cell? ⟨w.heap.size, 1, none⟩ = some (.slice aI I.length cI) := cell_of HX.out 1 _ rfl
        have hxl := blk_lt HX.out
        by_cases hlt : k < A.length
        · have hki : (k : Int) < A.length := by omega
          obtain ⟨lb, lo, rfl, q0, q1, q2, q3, q4, q5⟩ := at_as (HA.out.below hbw) k hlt
          have q6 := (at_as' (HA.out.below hbw) (k - 1) (by omega)).1
          have HEL := Lib.hid (HEA.out k)
          have HZ := Lib.hid (HZA.out k).1
          have hFF : Found I.length (fun i => (gi I i).1) (ga A k).iss (fnI I (ga A k).iss) := (fidx_first _ _ _).found
          have HRES := Lib.hid (fun (v : World) (hv : AtL v 2 isc aI I) => issuer_any aI (some ⟨lb, lo, none⟩) cI cA A.length I (ga A k).iss (fnI I (ga A k).iss) v (by omega) hv HSI.out hFF)
          change _ = some (Value.string (ga A k).nm) at q0
          change _ = some (Value.string (ga A k).iss) at q1
          change _ = some (Value.int .i64 (ga A k).pr) at q2
          change _ = some (Value.int .i64 (ga A k).hc) at q3
          change _ = some (Value.int .i64 (ga A k).mo) at q4
          change _ = some (Value.bool (ga A k).el) at q5
          change _ = some (Value.string (ga A (k - 1)).nm) at q6
          clear hFF
          generalize (ga A (k - 1)).nm = p at HEL q6
          generalize ga A k = x at *
          generalize oi I (fnI I x.iss) = y at HRES
          generalize (fnI I x.iss).isSome = s at HRES HEL
          have hbs : lb < wr.heap.size := World.block_lt_of_cell? _ _ q0
          have hbz : Below w.heap.size w (wr.alloc (.cells #[.string x.nm, .string x.iss, .int .i64 x.pr, .int .i64 x.hc, .int .i64 x.mo, .bool x.el] 48)) := hbw.alloc hbw.size _
          have HX1 := Lib.hid (blk_past wr (.cells #[.string x.nm, .string x.iss, .int .i64 x.pr, .int .i64 x.hc, .int .i64 x.mo, .bool x.el] 48) HX.out)
          have HY1 := Lib.hid (blk_new wr (.cells #[.string x.nm, .string x.iss, .int .i64 x.pr, .int .i64 x.hc, .int .i64 x.mo, .bool x.el] 48))
          rcases hb (decide ((0 : Int) ≤ x.pr)) with c1 | c1
          ·
            rcases hb (decide (x.pr ≤ (33554432 : Int))) with c2 | c2
            ·
              rcases hb (decide ((0 : Int) ≤ x.hc)) with c3 | c3
              ·
                rcases hb (decide (x.hc ≤ (1000 : Int))) with c4 | c4
                ·
                  rcases hb (decide (0 ≤ x.mo ∧ x.mo ≤ 1125899906842624)) with c5 | c5
                  ·
                    rcases hb (s) with hs | hs
                    ·
                      rcases hb (nm x.nm) with h1 | h1
                      ·
                        rcases hb (decide ((0 : Int) < (k : Int))) with h4 | h4
                        ·
                          rcases hb (Op.bytesLess p.toList x.nm.toList) with h5 | h5
                          ·
                            have HE := Lib.hid (show assE A I k = true by rw [HEL.out, c1, c2, c3, c4, c5, hs, h1, h4, h5]; simp)
                            have HG2 := Lib.hid (succ_all HGA.out HE.out)
                            have gc1 : (0 : Int) ≤ x.pr := of_decide_eq_true c1
                            have gc2 : x.pr ≤ (33554432 : Int) := of_decide_eq_true c2
                            have gc3 : (0 : Int) ≤ x.hc := of_decide_eq_true c3
                            have gc4 : x.hc ≤ (1000 : Int) := of_decide_eq_true c4
                            have hk1 : (0 : Int) < (k : Int) := of_decide_eq_true h4
                            have hk2 : (1 : Int) ≤ (k : Int) := hk1
                            have hk3 : (0 : Int) ≤ (k : Int) - 1 := by omega
                            have hk4 : (k : Int) - 1 < (A.length : Int) := by omega
                            have hk5 : IntKind.i64.wrap ((k : Int) - 1) = (k : Int) - 1 := IntWalk.i64_in _ (by omega)
                            have hk6 : ((k : Int) - 1).toNat = k - 1 := by omega
                            have hk0 : decide (0 < k) = true := decide_eq_true (by omega)
                            have hk7 : (k : Int) ≤ (A.length : Int) := by omega
                            rw [hs] at HRES
                            go_wp2_with fail
                            refine (HRES.out _ (HI.out.below hbz)).mono ?_
                            rintro e w2 ⟨rfl, hb2⟩
                            have HB2 := Lib.hid (bt hbz hb2 (Nat.le_refl _))
                            have HX2 := Lib.hid (blk_keep HX1.out hb2)
                            have HY2 := Lib.hid (blk_keep HY1.out hb2)
                            have hx0 : w2.cell? ⟨w.heap.size, 0, none⟩ = some (.slice (some ⟨lb, lo, none⟩) A.length cA) := cell_of HX2.out 0 _ rfl
                            have hx1 : w2.cell? ⟨w.heap.size, 1, none⟩ = some (.slice aI I.length cI) := cell_of HX2.out 1 _ rfl
                            have hy0 : w2.cell? ⟨wr.heap.size, 0, none⟩ = some (.string x.nm) := cell_of HY2.out 0 _ rfl
                            have hy1 : w2.cell? ⟨wr.heap.size, 1, none⟩ = some (.string x.iss) := cell_of HY2.out 1 _ rfl
                            have hy2 : w2.cell? ⟨wr.heap.size, 2, none⟩ = some (.int .i64 x.pr) := cell_of HY2.out 2 _ rfl
                            have hy3 : w2.cell? ⟨wr.heap.size, 3, none⟩ = some (.int .i64 x.hc) := cell_of HY2.out 3 _ rfl
                            have hy4 : w2.cell? ⟨wr.heap.size, 4, none⟩ = some (.int .i64 x.mo) := cell_of HY2.out 4 _ rfl
                            have hy5 : w2.cell? ⟨wr.heap.size, 5, none⟩ = some (.bool x.el) := cell_of HY2.out 5 _ rfl
                            have hxl := blk_lt HX2.out
                            have hyl := blk_lt HY2.out
                            have hq : w2.cell? ⟨lb, lo + (k - 1) * 6, none⟩ = some (.string p) := keep (keep q6 ((Below.refl _ _).alloc (Nat.le_refl _) _)) hb2
                            have hql : lb < w2.heap.size := World.block_lt_of_cell? _ _ hq
                            have hbz3 : Below w.heap.size w (w2.alloc (.cells #[.string y.1, .int .i64 y.2] 50)) := HB2.out.alloc HB2.out.size _
                            clear hb2 hbz
                            go_wp2_with (first | (go_at_call 41; refine (money_any x.mo _ _ c5).mono ?_; rintro e w' ⟨rfl, rfl⟩) | fail)
                            go_big_quiet ((first | (go_at_call 44; exact Calls.quiet_of_same (name_q _ _ _ HZ.out h1)) | (go_at_call 41; exact Calls.quiet_of_same (money_any _ _ _ c5))))
                            go_wp2
                            go_roundw
                            case rel => exact ⟨k + 1, by omega, by go_num, HG2, below_drewN hbz3 _, Lib.hid (blk_past w2 _ HX2.out)⟩
                            case measure => simp [intOf]; omega
                          ·
                            have HE := Lib.hid (show assE A I k = false by rw [HEL.out, c1, c2, c3, c4, c5, hs, h1, h4, h5]; simp)
                            have HBAD := Lib.hid (show allB A.length (assE A I) = false from allB_no k hlt HE.out)
                            have gc1 : (0 : Int) ≤ x.pr := of_decide_eq_true c1
                            have gc2 : x.pr ≤ (33554432 : Int) := of_decide_eq_true c2
                            have gc3 : (0 : Int) ≤ x.hc := of_decide_eq_true c3
                            have gc4 : x.hc ≤ (1000 : Int) := of_decide_eq_true c4
                            have hk1 : (0 : Int) < (k : Int) := of_decide_eq_true h4
                            have hk2 : (1 : Int) ≤ (k : Int) := hk1
                            have hk3 : (0 : Int) ≤ (k : Int) - 1 := by omega
                            have hk4 : (k : Int) - 1 < (A.length : Int) := by omega
                            have hk5 : IntKind.i64.wrap ((k : Int) - 1) = (k : Int) - 1 := IntWalk.i64_in _ (by omega)
                            have hk6 : ((k : Int) - 1).toNat = k - 1 := by omega
                            have hk0 : decide (0 < k) = true := decide_eq_true (by omega)
                            have hk7 : (k : Int) ≤ (A.length : Int) := by omega
                            rw [hs] at HRES
                            go_wp2_with fail
                            refine (HRES.out _ (HI.out.below hbz)).mono ?_
                            rintro e w2 ⟨rfl, hb2⟩
                            have HB2 := Lib.hid (bt hbz hb2 (Nat.le_refl _))
                            have HX2 := Lib.hid (blk_keep HX1.out hb2)
                            have HY2 := Lib.hid (blk_keep HY1.out hb2)
                            have hx0 : w2.cell? ⟨w.heap.size, 0, none⟩ = some (.slice (some ⟨lb, lo, none⟩) A.length cA) := cell_of HX2.out 0 _ rfl
                            have hx1 : w2.cell? ⟨w.heap.size, 1, none⟩ = some (.slice aI I.length cI) := cell_of HX2.out 1 _ rfl
                            have hy0 : w2.cell? ⟨wr.heap.size, 0, none⟩ = some (.string x.nm) := cell_of HY2.out 0 _ rfl
                            have hy1 : w2.cell? ⟨wr.heap.size, 1, none⟩ = some (.string x.iss) := cell_of HY2.out 1 _ rfl
                            have hy2 : w2.cell? ⟨wr.heap.size, 2, none⟩ = some (.int .i64 x.pr) := cell_of HY2.out 2 _ rfl
                            have hy3 : w2.cell? ⟨wr.heap.size, 3, none⟩ = some (.int .i64 x.hc) := cell_of HY2.out 3 _ rfl
                            have hy4 : w2.cell? ⟨wr.heap.size, 4, none⟩ = some (.int .i64 x.mo) := cell_of HY2.out 4 _ rfl
                            have hy5 : w2.cell? ⟨wr.heap.size, 5, none⟩ = some (.bool x.el) := cell_of HY2.out 5 _ rfl
                            have hxl := blk_lt HX2.out
                            have hyl := blk_lt HY2.out
                            have hq : w2.cell? ⟨lb, lo + (k - 1) * 6, none⟩ = some (.string p) := keep (keep q6 ((Below.refl _ _).alloc (Nat.le_refl _) _)) hb2
                            have hql : lb < w2.heap.size := World.block_lt_of_cell? _ _ hq
                            have hbz3 : Below w.heap.size w (w2.alloc (.cells #[.string y.1, .int .i64 y.2] 50)) := HB2.out.alloc HB2.out.size _
                            clear hb2 hbz
                            go_wp2_with (first | (go_at_call 41; refine (money_any x.mo _ _ c5).mono ?_; rintro e w' ⟨rfl, rfl⟩) | fail)
                            go_big_quiet ((first | (go_at_call 44; exact Calls.quiet_of_same (name_q _ _ _ HZ.out h1)) | (go_at_call 41; exact Calls.quiet_of_same (money_any _ _ _ c5))))
                            go_wp2
                            go_ret
                            exact ⟨ret_int (by rw [HW.out, HALLI.out, HBAD.out]; rfl), below_drewN hbz3 _⟩
                        ·
                          have HE := Lib.hid (show assE A I k = true by rw [HEL.out, c1, c2, c3, c4, c5, hs, h1, h4]; simp)
                          have HG2 := Lib.hid (succ_all HGA.out HE.out)
                          have gc1 : (0 : Int) ≤ x.pr := of_decide_eq_true c1
                          have gc2 : x.pr ≤ (33554432 : Int) := of_decide_eq_true c2
                          have gc3 : (0 : Int) ≤ x.hc := of_decide_eq_true c3
                          have gc4 : x.hc ≤ (1000 : Int) := of_decide_eq_true c4
                          have hk0 : decide (0 < k) = false := decide_eq_false (by have := of_decide_eq_false h4; omega)
                          rw [hs] at HRES
                          go_wp2_with fail
                          refine (HRES.out _ (HI.out.below hbz)).mono ?_
                          rintro e w2 ⟨rfl, hb2⟩
                          have HB2 := Lib.hid (bt hbz hb2 (Nat.le_refl _))
                          have HX2 := Lib.hid (blk_keep HX1.out hb2)
                          have HY2 := Lib.hid (blk_keep HY1.out hb2)
                          have hx0 : w2.cell? ⟨w.heap.size, 0, none⟩ = some (.slice (some ⟨lb, lo, none⟩) A.length cA) := cell_of HX2.out 0 _ rfl
                          have hx1 : w2.cell? ⟨w.heap.size, 1, none⟩ = some (.slice aI I.length cI) := cell_of HX2.out 1 _ rfl
                          have hy0 : w2.cell? ⟨wr.heap.size, 0, none⟩ = some (.string x.nm) := cell_of HY2.out 0 _ rfl
                          have hy1 : w2.cell? ⟨wr.heap.size, 1, none⟩ = some (.string x.iss) := cell_of HY2.out 1 _ rfl
                          have hy2 : w2.cell? ⟨wr.heap.size, 2, none⟩ = some (.int .i64 x.pr) := cell_of HY2.out 2 _ rfl
                          have hy3 : w2.cell? ⟨wr.heap.size, 3, none⟩ = some (.int .i64 x.hc) := cell_of HY2.out 3 _ rfl
                          have hy4 : w2.cell? ⟨wr.heap.size, 4, none⟩ = some (.int .i64 x.mo) := cell_of HY2.out 4 _ rfl
                          have hy5 : w2.cell? ⟨wr.heap.size, 5, none⟩ = some (.bool x.el) := cell_of HY2.out 5 _ rfl
                          have hxl := blk_lt HX2.out
                          have hyl := blk_lt HY2.out
                          have hbz3 : Below w.heap.size w (w2.alloc (.cells #[.string y.1, .int .i64 y.2] 50)) := HB2.out.alloc HB2.out.size _
                          clear hb2 hbz
                          go_wp2_with (first | (go_at_call 41; refine (money_any x.mo _ _ c5).mono ?_; rintro e w' ⟨rfl, rfl⟩) | fail)
                          go_big_quiet ((first | (go_at_call 44; exact Calls.quiet_of_same (name_q _ _ _ HZ.out h1)) | (go_at_call 41; exact Calls.quiet_of_same (money_any _ _ _ c5))))
                          go_wp2
                          go_roundw
                          case rel => exact ⟨k + 1, by omega, by go_num, HG2, below_drewN hbz3 _, Lib.hid (blk_past w2 _ HX2.out)⟩
                          case measure => simp [intOf]; omega
                      ·
                        have HE := Lib.hid (show assE A I k = false by rw [HEL.out, c1, c2, c3, c4, c5, hs, h1]; simp)
                        have HBAD := Lib.hid (show allB A.length (assE A I) = false from allB_no k hlt HE.out)
                        have gc1 : (0 : Int) ≤ x.pr := of_decide_eq_true c1
                        have gc2 : x.pr ≤ (33554432 : Int) := of_decide_eq_true c2
                        have gc3 : (0 : Int) ≤ x.hc := of_decide_eq_true c3
                        have gc4 : x.hc ≤ (1000 : Int) := of_decide_eq_true c4
                        rw [hs] at HRES
                        go_wp2_with fail
                        refine (HRES.out _ (HI.out.below hbz)).mono ?_
                        rintro e w2 ⟨rfl, hb2⟩
                        have HB2 := Lib.hid (bt hbz hb2 (Nat.le_refl _))
                        have HX2 := Lib.hid (blk_keep HX1.out hb2)
                        have HY2 := Lib.hid (blk_keep HY1.out hb2)
                        have hx0 : w2.cell? ⟨w.heap.size, 0, none⟩ = some (.slice (some ⟨lb, lo, none⟩) A.length cA) := cell_of HX2.out 0 _ rfl
                        have hx1 : w2.cell? ⟨w.heap.size, 1, none⟩ = some (.slice aI I.length cI) := cell_of HX2.out 1 _ rfl
                        have hy0 : w2.cell? ⟨wr.heap.size, 0, none⟩ = some (.string x.nm) := cell_of HY2.out 0 _ rfl
                        have hy1 : w2.cell? ⟨wr.heap.size, 1, none⟩ = some (.string x.iss) := cell_of HY2.out 1 _ rfl
                        have hy2 : w2.cell? ⟨wr.heap.size, 2, none⟩ = some (.int .i64 x.pr) := cell_of HY2.out 2 _ rfl
                        have hy3 : w2.cell? ⟨wr.heap.size, 3, none⟩ = some (.int .i64 x.hc) := cell_of HY2.out 3 _ rfl
                        have hy4 : w2.cell? ⟨wr.heap.size, 4, none⟩ = some (.int .i64 x.mo) := cell_of HY2.out 4 _ rfl
                        have hy5 : w2.cell? ⟨wr.heap.size, 5, none⟩ = some (.bool x.el) := cell_of HY2.out 5 _ rfl
                        have hxl := blk_lt HX2.out
                        have hyl := blk_lt HY2.out
                        have hbz3 : Below w.heap.size w (w2.alloc (.cells #[.string y.1, .int .i64 y.2] 50)) := HB2.out.alloc HB2.out.size _
                        clear hb2 hbz
                        go_wp2_with (first | (go_at_call 41; refine (money_any x.mo _ _ c5).mono ?_; rintro e w' ⟨rfl, rfl⟩) | fail)
                        go_big_quiet ((first | (go_at_call 44; exact Calls.quiet_of_same (name_q _ _ _ HZ.out h1)) | (go_at_call 41; exact Calls.quiet_of_same (money_any _ _ _ c5))))
                        go_wp2
                        go_ret
                        exact ⟨ret_int (by rw [HW.out, HALLI.out, HBAD.out]; rfl), below_drewN hbz3 _⟩
                    ·
                      have HE := Lib.hid (show assE A I k = false by rw [HEL.out, c1, c2, c3, c4, c5, hs]; simp)
                      have HBAD := Lib.hid (show allB A.length (assE A I) = false from allB_no k hlt HE.out)
                      have gc1 : (0 : Int) ≤ x.pr := of_decide_eq_true c1
                      have gc2 : x.pr ≤ (33554432 : Int) := of_decide_eq_true c2
                      have gc3 : (0 : Int) ≤ x.hc := of_decide_eq_true c3
                      have gc4 : x.hc ≤ (1000 : Int) := of_decide_eq_true c4
                      rw [hs] at HRES
                      go_wp2_with fail
                      refine (HRES.out _ (HI.out.below hbz)).mono ?_
                      rintro e w2 ⟨rfl, hb2⟩
                      have HB2 := Lib.hid (bt hbz hb2 (Nat.le_refl _))
                      have HX2 := Lib.hid (blk_keep HX1.out hb2)
                      have HY2 := Lib.hid (blk_keep HY1.out hb2)
                      have hx0 : w2.cell? ⟨w.heap.size, 0, none⟩ = some (.slice (some ⟨lb, lo, none⟩) A.length cA) := cell_of HX2.out 0 _ rfl
                      have hx1 : w2.cell? ⟨w.heap.size, 1, none⟩ = some (.slice aI I.length cI) := cell_of HX2.out 1 _ rfl
                      have hy0 : w2.cell? ⟨wr.heap.size, 0, none⟩ = some (.string x.nm) := cell_of HY2.out 0 _ rfl
                      have hy1 : w2.cell? ⟨wr.heap.size, 1, none⟩ = some (.string x.iss) := cell_of HY2.out 1 _ rfl
                      have hy2 : w2.cell? ⟨wr.heap.size, 2, none⟩ = some (.int .i64 x.pr) := cell_of HY2.out 2 _ rfl
                      have hy3 : w2.cell? ⟨wr.heap.size, 3, none⟩ = some (.int .i64 x.hc) := cell_of HY2.out 3 _ rfl
                      have hy4 : w2.cell? ⟨wr.heap.size, 4, none⟩ = some (.int .i64 x.mo) := cell_of HY2.out 4 _ rfl
                      have hy5 : w2.cell? ⟨wr.heap.size, 5, none⟩ = some (.bool x.el) := cell_of HY2.out 5 _ rfl
                      have hxl := blk_lt HX2.out
                      have hyl := blk_lt HY2.out
                      have hbz3 : Below w.heap.size w (w2.alloc (.cells #[.string y.1, .int .i64 y.2] 50)) := HB2.out.alloc HB2.out.size _
                      clear hb2 hbz
                      go_wp2_with (first | (go_at_call 41; refine (money_any x.mo _ _ c5).mono ?_; rintro e w' ⟨rfl, rfl⟩) | fail)
                      go_big_quiet ((first | (go_at_call 44; exact Calls.quiet_of_same (name_q _ _ _ HZ.out h1)) | (go_at_call 41; exact Calls.quiet_of_same (money_any _ _ _ c5))))
                      go_wp2
                      go_ret
                      exact ⟨ret_int (by rw [HW.out, HALLI.out, HBAD.out]; rfl), below_drewN hbz3 _⟩
                  ·
                    rcases hb (s) with hs | hs
                    ·
                      have HE := Lib.hid (show assE A I k = false by rw [HEL.out, c1, c2, c3, c4, c5, hs]; simp)
                      have HBAD := Lib.hid (show allB A.length (assE A I) = false from allB_no k hlt HE.out)
                      have gc1 : (0 : Int) ≤ x.pr := of_decide_eq_true c1
                      have gc2 : x.pr ≤ (33554432 : Int) := of_decide_eq_true c2
                      have gc3 : (0 : Int) ≤ x.hc := of_decide_eq_true c3
                      have gc4 : x.hc ≤ (1000 : Int) := of_decide_eq_true c4
                      rw [hs] at HRES
                      go_wp2_with fail
                      refine (HRES.out _ (HI.out.below hbz)).mono ?_
                      rintro e w2 ⟨rfl, hb2⟩
                      have HB2 := Lib.hid (bt hbz hb2 (Nat.le_refl _))
                      have HX2 := Lib.hid (blk_keep HX1.out hb2)
                      have HY2 := Lib.hid (blk_keep HY1.out hb2)
                      have hx0 : w2.cell? ⟨w.heap.size, 0, none⟩ = some (.slice (some ⟨lb, lo, none⟩) A.length cA) := cell_of HX2.out 0 _ rfl
                      have hx1 : w2.cell? ⟨w.heap.size, 1, none⟩ = some (.slice aI I.length cI) := cell_of HX2.out 1 _ rfl
                      have hy0 : w2.cell? ⟨wr.heap.size, 0, none⟩ = some (.string x.nm) := cell_of HY2.out 0 _ rfl
                      have hy1 : w2.cell? ⟨wr.heap.size, 1, none⟩ = some (.string x.iss) := cell_of HY2.out 1 _ rfl
                      have hy2 : w2.cell? ⟨wr.heap.size, 2, none⟩ = some (.int .i64 x.pr) := cell_of HY2.out 2 _ rfl
                      have hy3 : w2.cell? ⟨wr.heap.size, 3, none⟩ = some (.int .i64 x.hc) := cell_of HY2.out 3 _ rfl
                      have hy4 : w2.cell? ⟨wr.heap.size, 4, none⟩ = some (.int .i64 x.mo) := cell_of HY2.out 4 _ rfl
                      have hy5 : w2.cell? ⟨wr.heap.size, 5, none⟩ = some (.bool x.el) := cell_of HY2.out 5 _ rfl
                      have hxl := blk_lt HX2.out
                      have hyl := blk_lt HY2.out
                      have hbz3 : Below w.heap.size w (w2.alloc (.cells #[.string y.1, .int .i64 y.2] 50)) := HB2.out.alloc HB2.out.size _
                      clear hb2 hbz
                      go_wp2_with (first | (go_at_call 41; refine (money_any x.mo _ _ c5).mono ?_; rintro e w' ⟨rfl, rfl⟩) | fail)
                      go_big_quiet ((first | (go_at_call 44; exact Calls.quiet_of_same (name_q _ _ _ HZ.out h1)) | (go_at_call 41; exact Calls.quiet_of_same (money_any _ _ _ c5))))
                      go_wp2
                      go_ret
                      exact ⟨ret_int (by rw [HW.out, HALLI.out, HBAD.out]; rfl), below_drewN hbz3 _⟩
                    ·
                      have HE := Lib.hid (show assE A I k = false by rw [HEL.out, c1, c2, c3, c4, c5, hs]; simp)
                      have HBAD := Lib.hid (show allB A.length (assE A I) = false from allB_no k hlt HE.out)
                      have gc1 : (0 : Int) ≤ x.pr := of_decide_eq_true c1
                      have gc2 : x.pr ≤ (33554432 : Int) := of_decide_eq_true c2
                      have gc3 : (0 : Int) ≤ x.hc := of_decide_eq_true c3
                      have gc4 : x.hc ≤ (1000 : Int) := of_decide_eq_true c4
                      rw [hs] at HRES
                      go_wp2_with fail
                      refine (HRES.out _ (HI.out.below hbz)).mono ?_
                      rintro e w2 ⟨rfl, hb2⟩
                      have HB2 := Lib.hid (bt hbz hb2 (Nat.le_refl _))
                      have HX2 := Lib.hid (blk_keep HX1.out hb2)
                      have HY2 := Lib.hid (blk_keep HY1.out hb2)
                      have hx0 : w2.cell? ⟨w.heap.size, 0, none⟩ = some (.slice (some ⟨lb, lo, none⟩) A.length cA) := cell_of HX2.out 0 _ rfl
                      have hx1 : w2.cell? ⟨w.heap.size, 1, none⟩ = some (.slice aI I.length cI) := cell_of HX2.out 1 _ rfl
                      have hy0 : w2.cell? ⟨wr.heap.size, 0, none⟩ = some (.string x.nm) := cell_of HY2.out 0 _ rfl
                      have hy1 : w2.cell? ⟨wr.heap.size, 1, none⟩ = some (.string x.iss) := cell_of HY2.out 1 _ rfl
                      have hy2 : w2.cell? ⟨wr.heap.size, 2, none⟩ = some (.int .i64 x.pr) := cell_of HY2.out 2 _ rfl
                      have hy3 : w2.cell? ⟨wr.heap.size, 3, none⟩ = some (.int .i64 x.hc) := cell_of HY2.out 3 _ rfl
                      have hy4 : w2.cell? ⟨wr.heap.size, 4, none⟩ = some (.int .i64 x.mo) := cell_of HY2.out 4 _ rfl
                      have hy5 : w2.cell? ⟨wr.heap.size, 5, none⟩ = some (.bool x.el) := cell_of HY2.out 5 _ rfl
                      have hxl := blk_lt HX2.out
                      have hyl := blk_lt HY2.out
                      have hbz3 : Below w.heap.size w (w2.alloc (.cells #[.string y.1, .int .i64 y.2] 50)) := HB2.out.alloc HB2.out.size _
                      clear hb2 hbz
                      go_wp2_with (first | (go_at_call 41; refine (money_any x.mo _ _ c5).mono ?_; rintro e w' ⟨rfl, rfl⟩) | fail)
                      go_big_quiet ((first | (go_at_call 44; exact Calls.quiet_of_same (name_q _ _ _ HZ.out h1)) | (go_at_call 41; exact Calls.quiet_of_same (money_any _ _ _ c5))))
                      go_wp2
                      go_ret
                      exact ⟨ret_int (by rw [HW.out, HALLI.out, HBAD.out]; rfl), below_drewN hbz3 _⟩
                ·
                  rcases hb (s) with hs | hs
                  ·
                    have HE := Lib.hid (show assE A I k = false by rw [HEL.out, c1, c2, c3, c4, hs]; simp)
                    have HBAD := Lib.hid (show allB A.length (assE A I) = false from allB_no k hlt HE.out)
                    have gc1 : (0 : Int) ≤ x.pr := of_decide_eq_true c1
                    have gc2 : x.pr ≤ (33554432 : Int) := of_decide_eq_true c2
                    have gc3 : (0 : Int) ≤ x.hc := of_decide_eq_true c3
                    have gc4 : ¬ x.hc ≤ (1000 : Int) := of_decide_eq_false c4
                    rw [hs] at HRES
                    go_wp2_with fail
                    refine (HRES.out _ (HI.out.below hbz)).mono ?_
                    rintro e w2 ⟨rfl, hb2⟩
                    have HB2 := Lib.hid (bt hbz hb2 (Nat.le_refl _))
                    have HX2 := Lib.hid (blk_keep HX1.out hb2)
                    have HY2 := Lib.hid (blk_keep HY1.out hb2)
                    have hx0 : w2.cell? ⟨w.heap.size, 0, none⟩ = some (.slice (some ⟨lb, lo, none⟩) A.length cA) := cell_of HX2.out 0 _ rfl
                    have hx1 : w2.cell? ⟨w.heap.size, 1, none⟩ = some (.slice aI I.length cI) := cell_of HX2.out 1 _ rfl
                    have hy0 : w2.cell? ⟨wr.heap.size, 0, none⟩ = some (.string x.nm) := cell_of HY2.out 0 _ rfl
                    have hy1 : w2.cell? ⟨wr.heap.size, 1, none⟩ = some (.string x.iss) := cell_of HY2.out 1 _ rfl
                    have hy2 : w2.cell? ⟨wr.heap.size, 2, none⟩ = some (.int .i64 x.pr) := cell_of HY2.out 2 _ rfl
                    have hy3 : w2.cell? ⟨wr.heap.size, 3, none⟩ = some (.int .i64 x.hc) := cell_of HY2.out 3 _ rfl
                    have hy4 : w2.cell? ⟨wr.heap.size, 4, none⟩ = some (.int .i64 x.mo) := cell_of HY2.out 4 _ rfl
                    have hy5 : w2.cell? ⟨wr.heap.size, 5, none⟩ = some (.bool x.el) := cell_of HY2.out 5 _ rfl
                    have hxl := blk_lt HX2.out
                    have hyl := blk_lt HY2.out
                    have hbz3 : Below w.heap.size w (w2.alloc (.cells #[.string y.1, .int .i64 y.2] 50)) := HB2.out.alloc HB2.out.size _
                    clear hb2 hbz
                    go_wp2_with (first | (go_at_call 41; refine (money_any x.mo _ _ c5).mono ?_; rintro e w' ⟨rfl, rfl⟩) | fail)
                    go_big_quiet ((first | (go_at_call 44; exact Calls.quiet_of_same (name_q _ _ _ HZ.out h1)) | (go_at_call 41; exact Calls.quiet_of_same (money_any _ _ _ rfl))))
                    go_wp2
                    go_ret
                    exact ⟨ret_int (by rw [HW.out, HALLI.out, HBAD.out]; rfl), below_drewN hbz3 _⟩
                  ·
                    have HE := Lib.hid (show assE A I k = false by rw [HEL.out, c1, c2, c3, c4, hs]; simp)
                    have HBAD := Lib.hid (show allB A.length (assE A I) = false from allB_no k hlt HE.out)
                    have gc1 : (0 : Int) ≤ x.pr := of_decide_eq_true c1
                    have gc2 : x.pr ≤ (33554432 : Int) := of_decide_eq_true c2
                    have gc3 : (0 : Int) ≤ x.hc := of_decide_eq_true c3
                    have gc4 : ¬ x.hc ≤ (1000 : Int) := of_decide_eq_false c4
                    rw [hs] at HRES
                    go_wp2_with fail
                    refine (HRES.out _ (HI.out.below hbz)).mono ?_
                    rintro e w2 ⟨rfl, hb2⟩
                    have HB2 := Lib.hid (bt hbz hb2 (Nat.le_refl _))
                    have HX2 := Lib.hid (blk_keep HX1.out hb2)
                    have HY2 := Lib.hid (blk_keep HY1.out hb2)
                    have hx0 : w2.cell? ⟨w.heap.size, 0, none⟩ = some (.slice (some ⟨lb, lo, none⟩) A.length cA) := cell_of HX2.out 0 _ rfl
                    have hx1 : w2.cell? ⟨w.heap.size, 1, none⟩ = some (.slice aI I.length cI) := cell_of HX2.out 1 _ rfl
                    have hy0 : w2.cell? ⟨wr.heap.size, 0, none⟩ = some (.string x.nm) := cell_of HY2.out 0 _ rfl
                    have hy1 : w2.cell? ⟨wr.heap.size, 1, none⟩ = some (.string x.iss) := cell_of HY2.out 1 _ rfl
                    have hy2 : w2.cell? ⟨wr.heap.size, 2, none⟩ = some (.int .i64 x.pr) := cell_of HY2.out 2 _ rfl
                    have hy3 : w2.cell? ⟨wr.heap.size, 3, none⟩ = some (.int .i64 x.hc) := cell_of HY2.out 3 _ rfl
                    have hy4 : w2.cell? ⟨wr.heap.size, 4, none⟩ = some (.int .i64 x.mo) := cell_of HY2.out 4 _ rfl
                    have hy5 : w2.cell? ⟨wr.heap.size, 5, none⟩ = some (.bool x.el) := cell_of HY2.out 5 _ rfl
                    have hxl := blk_lt HX2.out
                    have hyl := blk_lt HY2.out
                    have hbz3 : Below w.heap.size w (w2.alloc (.cells #[.string y.1, .int .i64 y.2] 50)) := HB2.out.alloc HB2.out.size _
                    clear hb2 hbz
                    go_wp2_with (first | (go_at_call 41; refine (money_any x.mo _ _ c5).mono ?_; rintro e w' ⟨rfl, rfl⟩) | fail)
                    go_big_quiet ((first | (go_at_call 44; exact Calls.quiet_of_same (name_q _ _ _ HZ.out h1)) | (go_at_call 41; exact Calls.quiet_of_same (money_any _ _ _ rfl))))
                    go_wp2
                    go_ret
                    exact ⟨ret_int (by rw [HW.out, HALLI.out, HBAD.out]; rfl), below_drewN hbz3 _⟩
              ·
                rcases hb (s) with hs | hs
                ·
                  have HE := Lib.hid (show assE A I k = false by rw [HEL.out, c1, c2, c3, hs]; simp)
                  have HBAD := Lib.hid (show allB A.length (assE A I) = false from allB_no k hlt HE.out)
                  have gc1 : (0 : Int) ≤ x.pr := of_decide_eq_true c1
                  have gc2 : x.pr ≤ (33554432 : Int) := of_decide_eq_true c2
                  have gc3 : ¬ (0 : Int) ≤ x.hc := of_decide_eq_false c3
                  rw [hs] at HRES
                  go_wp2_with fail
                  refine (HRES.out _ (HI.out.below hbz)).mono ?_
                  rintro e w2 ⟨rfl, hb2⟩
                  have HB2 := Lib.hid (bt hbz hb2 (Nat.le_refl _))
                  have HX2 := Lib.hid (blk_keep HX1.out hb2)
                  have HY2 := Lib.hid (blk_keep HY1.out hb2)
                  have hx0 : w2.cell? ⟨w.heap.size, 0, none⟩ = some (.slice (some ⟨lb, lo, none⟩) A.length cA) := cell_of HX2.out 0 _ rfl
                  have hx1 : w2.cell? ⟨w.heap.size, 1, none⟩ = some (.slice aI I.length cI) := cell_of HX2.out 1 _ rfl
                  have hy0 : w2.cell? ⟨wr.heap.size, 0, none⟩ = some (.string x.nm) := cell_of HY2.out 0 _ rfl
                  have hy1 : w2.cell? ⟨wr.heap.size, 1, none⟩ = some (.string x.iss) := cell_of HY2.out 1 _ rfl
                  have hy2 : w2.cell? ⟨wr.heap.size, 2, none⟩ = some (.int .i64 x.pr) := cell_of HY2.out 2 _ rfl
                  have hy3 : w2.cell? ⟨wr.heap.size, 3, none⟩ = some (.int .i64 x.hc) := cell_of HY2.out 3 _ rfl
                  have hy4 : w2.cell? ⟨wr.heap.size, 4, none⟩ = some (.int .i64 x.mo) := cell_of HY2.out 4 _ rfl
                  have hy5 : w2.cell? ⟨wr.heap.size, 5, none⟩ = some (.bool x.el) := cell_of HY2.out 5 _ rfl
                  have hxl := blk_lt HX2.out
                  have hyl := blk_lt HY2.out
                  have hbz3 : Below w.heap.size w (w2.alloc (.cells #[.string y.1, .int .i64 y.2] 50)) := HB2.out.alloc HB2.out.size _
                  clear hb2 hbz
                  go_wp2_with (first | (go_at_call 41; refine (money_any x.mo _ _ c5).mono ?_; rintro e w' ⟨rfl, rfl⟩) | fail)
                  go_big_quiet ((first | (go_at_call 44; exact Calls.quiet_of_same (name_q _ _ _ HZ.out h1)) | (go_at_call 41; exact Calls.quiet_of_same (money_any _ _ _ rfl))))
                  go_wp2
                  go_ret
                  exact ⟨ret_int (by rw [HW.out, HALLI.out, HBAD.out]; rfl), below_drewN hbz3 _⟩
                ·
                  have HE := Lib.hid (show assE A I k = false by rw [HEL.out, c1, c2, c3, hs]; simp)
                  have HBAD := Lib.hid (show allB A.length (assE A I) = false from allB_no k hlt HE.out)
                  have gc1 : (0 : Int) ≤ x.pr := of_decide_eq_true c1
                  have gc2 : x.pr ≤ (33554432 : Int) := of_decide_eq_true c2
                  have gc3 : ¬ (0 : Int) ≤ x.hc := of_decide_eq_false c3
                  rw [hs] at HRES
                  go_wp2_with fail
                  refine (HRES.out _ (HI.out.below hbz)).mono ?_
                  rintro e w2 ⟨rfl, hb2⟩
                  have HB2 := Lib.hid (bt hbz hb2 (Nat.le_refl _))
                  have HX2 := Lib.hid (blk_keep HX1.out hb2)
                  have HY2 := Lib.hid (blk_keep HY1.out hb2)
                  have hx0 : w2.cell? ⟨w.heap.size, 0, none⟩ = some (.slice (some ⟨lb, lo, none⟩) A.length cA) := cell_of HX2.out 0 _ rfl
                  have hx1 : w2.cell? ⟨w.heap.size, 1, none⟩ = some (.slice aI I.length cI) := cell_of HX2.out 1 _ rfl
                  have hy0 : w2.cell? ⟨wr.heap.size, 0, none⟩ = some (.string x.nm) := cell_of HY2.out 0 _ rfl
                  have hy1 : w2.cell? ⟨wr.heap.size, 1, none⟩ = some (.string x.iss) := cell_of HY2.out 1 _ rfl
                  have hy2 : w2.cell? ⟨wr.heap.size, 2, none⟩ = some (.int .i64 x.pr) := cell_of HY2.out 2 _ rfl
                  have hy3 : w2.cell? ⟨wr.heap.size, 3, none⟩ = some (.int .i64 x.hc) := cell_of HY2.out 3 _ rfl
                  have hy4 : w2.cell? ⟨wr.heap.size, 4, none⟩ = some (.int .i64 x.mo) := cell_of HY2.out 4 _ rfl
                  have hy5 : w2.cell? ⟨wr.heap.size, 5, none⟩ = some (.bool x.el) := cell_of HY2.out 5 _ rfl
                  have hxl := blk_lt HX2.out
                  have hyl := blk_lt HY2.out
                  have hbz3 : Below w.heap.size w (w2.alloc (.cells #[.string y.1, .int .i64 y.2] 50)) := HB2.out.alloc HB2.out.size _
                  clear hb2 hbz
                  go_wp2_with (first | (go_at_call 41; refine (money_any x.mo _ _ c5).mono ?_; rintro e w' ⟨rfl, rfl⟩) | fail)
                  go_big_quiet ((first | (go_at_call 44; exact Calls.quiet_of_same (name_q _ _ _ HZ.out h1)) | (go_at_call 41; exact Calls.quiet_of_same (money_any _ _ _ rfl))))
                  go_wp2
                  go_ret
                  exact ⟨ret_int (by rw [HW.out, HALLI.out, HBAD.out]; rfl), below_drewN hbz3 _⟩
            ·
              rcases hb (s) with hs | hs
              ·
                have HE := Lib.hid (show assE A I k = false by rw [HEL.out, c1, c2, hs]; simp)
                have HBAD := Lib.hid (show allB A.length (assE A I) = false from allB_no k hlt HE.out)
                have gc1 : (0 : Int) ≤ x.pr := of_decide_eq_true c1
                have gc2 : ¬ x.pr ≤ (33554432 : Int) := of_decide_eq_false c2
                rw [hs] at HRES
                go_wp2_with fail
                refine (HRES.out _ (HI.out.below hbz)).mono ?_
                rintro e w2 ⟨rfl, hb2⟩
                have HB2 := Lib.hid (bt hbz hb2 (Nat.le_refl _))
                have HX2 := Lib.hid (blk_keep HX1.out hb2)
                have HY2 := Lib.hid (blk_keep HY1.out hb2)
                have hx0 : w2.cell? ⟨w.heap.size, 0, none⟩ = some (.slice (some ⟨lb, lo, none⟩) A.length cA) := cell_of HX2.out 0 _ rfl
                have hx1 : w2.cell? ⟨w.heap.size, 1, none⟩ = some (.slice aI I.length cI) := cell_of HX2.out 1 _ rfl
                have hy0 : w2.cell? ⟨wr.heap.size, 0, none⟩ = some (.string x.nm) := cell_of HY2.out 0 _ rfl
                have hy1 : w2.cell? ⟨wr.heap.size, 1, none⟩ = some (.string x.iss) := cell_of HY2.out 1 _ rfl
                have hy2 : w2.cell? ⟨wr.heap.size, 2, none⟩ = some (.int .i64 x.pr) := cell_of HY2.out 2 _ rfl
                have hy3 : w2.cell? ⟨wr.heap.size, 3, none⟩ = some (.int .i64 x.hc) := cell_of HY2.out 3 _ rfl
                have hy4 : w2.cell? ⟨wr.heap.size, 4, none⟩ = some (.int .i64 x.mo) := cell_of HY2.out 4 _ rfl
                have hy5 : w2.cell? ⟨wr.heap.size, 5, none⟩ = some (.bool x.el) := cell_of HY2.out 5 _ rfl
                have hxl := blk_lt HX2.out
                have hyl := blk_lt HY2.out
                have hbz3 : Below w.heap.size w (w2.alloc (.cells #[.string y.1, .int .i64 y.2] 50)) := HB2.out.alloc HB2.out.size _
                clear hb2 hbz
                go_wp2_with (first | (go_at_call 41; refine (money_any x.mo _ _ c5).mono ?_; rintro e w' ⟨rfl, rfl⟩) | fail)
                go_big_quiet ((first | (go_at_call 44; exact Calls.quiet_of_same (name_q _ _ _ HZ.out h1)) | (go_at_call 41; exact Calls.quiet_of_same (money_any _ _ _ rfl))))
                go_wp2
                go_ret
                exact ⟨ret_int (by rw [HW.out, HALLI.out, HBAD.out]; rfl), below_drewN hbz3 _⟩
              ·
                have HE := Lib.hid (show assE A I k = false by rw [HEL.out, c1, c2, hs]; simp)
                have HBAD := Lib.hid (show allB A.length (assE A I) = false from allB_no k hlt HE.out)
                have gc1 : (0 : Int) ≤ x.pr := of_decide_eq_true c1
                have gc2 : ¬ x.pr ≤ (33554432 : Int) := of_decide_eq_false c2
                rw [hs] at HRES
                go_wp2_with fail
                refine (HRES.out _ (HI.out.below hbz)).mono ?_
                rintro e w2 ⟨rfl, hb2⟩
                have HB2 := Lib.hid (bt hbz hb2 (Nat.le_refl _))
                have HX2 := Lib.hid (blk_keep HX1.out hb2)
                have HY2 := Lib.hid (blk_keep HY1.out hb2)
                have hx0 : w2.cell? ⟨w.heap.size, 0, none⟩ = some (.slice (some ⟨lb, lo, none⟩) A.length cA) := cell_of HX2.out 0 _ rfl
                have hx1 : w2.cell? ⟨w.heap.size, 1, none⟩ = some (.slice aI I.length cI) := cell_of HX2.out 1 _ rfl
                have hy0 : w2.cell? ⟨wr.heap.size, 0, none⟩ = some (.string x.nm) := cell_of HY2.out 0 _ rfl
                have hy1 : w2.cell? ⟨wr.heap.size, 1, none⟩ = some (.string x.iss) := cell_of HY2.out 1 _ rfl
                have hy2 : w2.cell? ⟨wr.heap.size, 2, none⟩ = some (.int .i64 x.pr) := cell_of HY2.out 2 _ rfl
                have hy3 : w2.cell? ⟨wr.heap.size, 3, none⟩ = some (.int .i64 x.hc) := cell_of HY2.out 3 _ rfl
                have hy4 : w2.cell? ⟨wr.heap.size, 4, none⟩ = some (.int .i64 x.mo) := cell_of HY2.out 4 _ rfl
                have hy5 : w2.cell? ⟨wr.heap.size, 5, none⟩ = some (.bool x.el) := cell_of HY2.out 5 _ rfl
                have hxl := blk_lt HX2.out
                have hyl := blk_lt HY2.out
                have hbz3 : Below w.heap.size w (w2.alloc (.cells #[.string y.1, .int .i64 y.2] 50)) := HB2.out.alloc HB2.out.size _
                clear hb2 hbz
                go_wp2_with (first | (go_at_call 41; refine (money_any x.mo _ _ c5).mono ?_; rintro e w' ⟨rfl, rfl⟩) | fail)
                go_big_quiet ((first | (go_at_call 44; exact Calls.quiet_of_same (name_q _ _ _ HZ.out h1)) | (go_at_call 41; exact Calls.quiet_of_same (money_any _ _ _ rfl))))
                go_wp2
                go_ret
                exact ⟨ret_int (by rw [HW.out, HALLI.out, HBAD.out]; rfl), below_drewN hbz3 _⟩
          ·
            rcases hb (s) with hs | hs
            ·
              have HE := Lib.hid (show assE A I k = false by rw [HEL.out, c1, hs]; simp)
              have HBAD := Lib.hid (show allB A.length (assE A I) = false from allB_no k hlt HE.out)
              have gc1 : ¬ (0 : Int) ≤ x.pr := of_decide_eq_false c1
              rw [hs] at HRES
              go_wp2_with fail
              refine (HRES.out _ (HI.out.below hbz)).mono ?_
              rintro e w2 ⟨rfl, hb2⟩
              have HB2 := Lib.hid (bt hbz hb2 (Nat.le_refl _))
              have HX2 := Lib.hid (blk_keep HX1.out hb2)
              have HY2 := Lib.hid (blk_keep HY1.out hb2)
              have hx0 : w2.cell? ⟨w.heap.size, 0, none⟩ = some (.slice (some ⟨lb, lo, none⟩) A.length cA) := cell_of HX2.out 0 _ rfl
              have hx1 : w2.cell? ⟨w.heap.size, 1, none⟩ = some (.slice aI I.length cI) := cell_of HX2.out 1 _ rfl
              have hy0 : w2.cell? ⟨wr.heap.size, 0, none⟩ = some (.string x.nm) := cell_of HY2.out 0 _ rfl
              have hy1 : w2.cell? ⟨wr.heap.size, 1, none⟩ = some (.string x.iss) := cell_of HY2.out 1 _ rfl
              have hy2 : w2.cell? ⟨wr.heap.size, 2, none⟩ = some (.int .i64 x.pr) := cell_of HY2.out 2 _ rfl
              have hy3 : w2.cell? ⟨wr.heap.size, 3, none⟩ = some (.int .i64 x.hc) := cell_of HY2.out 3 _ rfl
              have hy4 : w2.cell? ⟨wr.heap.size, 4, none⟩ = some (.int .i64 x.mo) := cell_of HY2.out 4 _ rfl
              have hy5 : w2.cell? ⟨wr.heap.size, 5, none⟩ = some (.bool x.el) := cell_of HY2.out 5 _ rfl
              have hxl := blk_lt HX2.out
              have hyl := blk_lt HY2.out
              have hbz3 : Below w.heap.size w (w2.alloc (.cells #[.string y.1, .int .i64 y.2] 50)) := HB2.out.alloc HB2.out.size _
              clear hb2 hbz
              go_wp2_with (first | (go_at_call 41; refine (money_any x.mo _ _ c5).mono ?_; rintro e w' ⟨rfl, rfl⟩) | fail)
              go_big_quiet ((first | (go_at_call 44; exact Calls.quiet_of_same (name_q _ _ _ HZ.out h1)) | (go_at_call 41; exact Calls.quiet_of_same (money_any _ _ _ rfl))))
              go_wp2
              go_ret
              exact ⟨ret_int (by rw [HW.out, HALLI.out, HBAD.out]; rfl), below_drewN hbz3 _⟩
            ·
              have HE := Lib.hid (show assE A I k = false by rw [HEL.out, c1, hs]; simp)
              have HBAD := Lib.hid (show allB A.length (assE A I) = false from allB_no k hlt HE.out)
              have gc1 : ¬ (0 : Int) ≤ x.pr := of_decide_eq_false c1
              rw [hs] at HRES
              go_wp2_with fail
              refine (HRES.out _ (HI.out.below hbz)).mono ?_
              rintro e w2 ⟨rfl, hb2⟩
              have HB2 := Lib.hid (bt hbz hb2 (Nat.le_refl _))
              have HX2 := Lib.hid (blk_keep HX1.out hb2)
              have HY2 := Lib.hid (blk_keep HY1.out hb2)
              have hx0 : w2.cell? ⟨w.heap.size, 0, none⟩ = some (.slice (some ⟨lb, lo, none⟩) A.length cA) := cell_of HX2.out 0 _ rfl
              have hx1 : w2.cell? ⟨w.heap.size, 1, none⟩ = some (.slice aI I.length cI) := cell_of HX2.out 1 _ rfl
              have hy0 : w2.cell? ⟨wr.heap.size, 0, none⟩ = some (.string x.nm) := cell_of HY2.out 0 _ rfl
              have hy1 : w2.cell? ⟨wr.heap.size, 1, none⟩ = some (.string x.iss) := cell_of HY2.out 1 _ rfl
              have hy2 : w2.cell? ⟨wr.heap.size, 2, none⟩ = some (.int .i64 x.pr) := cell_of HY2.out 2 _ rfl
              have hy3 : w2.cell? ⟨wr.heap.size, 3, none⟩ = some (.int .i64 x.hc) := cell_of HY2.out 3 _ rfl
              have hy4 : w2.cell? ⟨wr.heap.size, 4, none⟩ = some (.int .i64 x.mo) := cell_of HY2.out 4 _ rfl
              have hy5 : w2.cell? ⟨wr.heap.size, 5, none⟩ = some (.bool x.el) := cell_of HY2.out 5 _ rfl
              have hxl := blk_lt HX2.out
              have hyl := blk_lt HY2.out
              have hbz3 : Below w.heap.size w (w2.alloc (.cells #[.string y.1, .int .i64 y.2] 50)) := HB2.out.alloc HB2.out.size _
              clear hb2 hbz
              go_wp2_with (first | (go_at_call 41; refine (money_any x.mo _ _ c5).mono ?_; rintro e w' ⟨rfl, rfl⟩) | fail)
              go_big_quiet ((first | (go_at_call 44; exact Calls.quiet_of_same (name_q _ _ _ HZ.out h1)) | (go_at_call 41; exact Calls.quiet_of_same (money_any _ _ _ rfl))))
              go_wp2
              go_ret
              exact ⟨ret_int (by rw [HW.out, HALLI.out, HBAD.out]; rfl), below_drewN hbz3 _⟩
        · obtain rfl : k = A.length := by omega
          have HALLA := Lib.hid (show allB A.length (assE A I) = true from allB_yes HGA.out)
          go_wp2
          go_ret
          exact ⟨ret_int (by rw [HW.out, HALLI.out, HALLA.out]; rfl), hbw⟩

end Go.Proofs.Ytbfgnkakcnhojaa.Co
