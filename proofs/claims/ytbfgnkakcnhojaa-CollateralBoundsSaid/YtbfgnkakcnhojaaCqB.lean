/-
  The walk of the law CollateralBounds.
-/
import Derived.Test.YtbfgnkakcnhojaaCoS
import Derived.Test.YtbfgnkakcnhojaaCqA
namespace Go.Proofs.Ytbfgnkakcnhojaa.Co
open Go.RowKit Go.Proofs.Ytbfgnkakcnhojaa Go.Proofs.Ytbfgnkakcnhojaa.Ls Go.Proofs.Ytbfgnkakcnhojaa.Kb
open Go.Proofs.Ytbfgnkakcnhojaa.Nm hiding ret_bool ret_int

set_option maxRecDepth 100000 in
set_option maxHeartbeats 8000000 in
theorem bounds_walk {W : World} (aA aI : Option Addr) (cA cI : Nat) (A : List As) (I : List (ByteArray × Int)) (hZA : SzA A) (hZI : SzL I) (hA : AtL W 6 asc aA A) (hI : AtL W 2 isc aI I)
    (aL : Option Addr) (cL : Nat) (L : List (ByteArray × Int)) (hZL : SzL L) (hL : AtL W 2 isc aL L) :
    Calls Try.prog 4 #[.agg #[.slice aA A.length cA, .slice aI I.length cI], .slice aL L.length cL] W fun e W' => e = .returned (.bool true) ∧ Below W.heap.size W W' := by
  have hbo : Below W.heap.size W (W.alloc (.cells #[.slice aA A.length cA, .slice aI I.length cI] 25)) := (Below.refl _ _).alloc (Nat.le_refl _) _
  have HX0 := Lib.hid (blk_new W (.cells #[.slice aA A.length cA, .slice aI I.length cI] 25))
  rcases hb (greatB A.length I.length L.length) with hg | hg
  · have HG := Lib.hid hg
    clear hg
    go_enter Try.func4, Try.ntmps4
    go_wp2_with fail
    generalize W.alloc _ = wo at hbo HX0 ⊢
    refine (alive_any wo).mono ?_
    rintro e w1 ⟨rfl, hb1⟩
    have c1 := bt hbo hb1 (Nat.le_refl _)
    have HX1 := Lib.hid (blk_keep HX0.out hb1)
    have hx0 : w1.cell? ⟨W.heap.size, 0, none⟩ = some (.slice aA A.length cA) := cell_of HX1.out 0 _ rfl
    have hx1 : w1.cell? ⟨W.heap.size, 1, none⟩ = some (.slice aI I.length cI) := cell_of HX1.out 1 _ rfl
    clear HX0 hb1 hbo
    go_wp2_with fail
    refine (great_any aA aI aL A.length I.length L.length cA cI cL w1).mono ?_
    rintro e w2 ⟨rfl, hb2⟩
    have c2 := bt c1 hb2 (Nat.le_refl _)
    have HX2 := Lib.hid (blk_keep HX1.out hb2)
    rw [HG.out]
    clear HX1 hx0 hx1 c1 hb2
    go_wp2
    go_ret
    exact ⟨rfl, c2⟩
  · obtain ⟨hlA, hlI, hlL⟩ := great_no hg
    have HG := Lib.hid hg
    clear hg
    have HA := Lib.hid hA
    have HI := Lib.hid hI
    have HL := Lib.hid hL
    clear hA hI hL
    rcases hb (fitB A I L) with hf | hf
    rotate_left
    · have HC0 := Lib.hid (fun (v : World) (hv : Below W.heap.size W v) => counted_no aA aI aL cA cI cL A I L v (by omega) (by omega) (by omega) hZA hZI hZL (HA.out.below hv) (HI.out.below hv) (HL.out.below hv) hf)
      have HV0 := Lib.hid (fun (v : World) (hv : Below W.heap.size W v) => pvalue_no aA aI aL cA cI cL A I L v (by omega) (by omega) (by omega) hZA hZI hZL (HA.out.below hv) (HI.out.below hv) (HL.out.below hv) hf)
      have HM0 := Lib.hid (fun (v : World) (hv : Below W.heap.size W v) => market_no aA aI aL cA cI cL A I L v (by omega) (by omega) (by omega) hZA hZI hZL (HA.out.below hv) (HI.out.below hv) (HL.out.below hv) hf)
      clear hf HA HI HL hZA hZI hZL
      go_enter Try.func4, Try.ntmps4
      go_wp2_with fail
      generalize W.alloc _ = wo at hbo HX0 ⊢
      refine (alive_any wo).mono ?_
      rintro e w1 ⟨rfl, hb1⟩
      have c1 := bt hbo hb1 (Nat.le_refl _)
      have HX1 := Lib.hid (blk_keep HX0.out hb1)
      have hx0 : w1.cell? ⟨W.heap.size, 0, none⟩ = some (.slice aA A.length cA) := cell_of HX1.out 0 _ rfl
      have hx1 : w1.cell? ⟨W.heap.size, 1, none⟩ = some (.slice aI I.length cI) := cell_of HX1.out 1 _ rfl
      clear HX0 hb1 hbo
      go_wp2_with fail
      refine (great_any aA aI aL A.length I.length L.length cA cI cL w1).mono ?_
      rintro e w2 ⟨rfl, hb2⟩
      have c2 := bt c1 hb2 (Nat.le_refl _)
      have HX2 := Lib.hid (blk_keep HX1.out hb2)
      rw [HG.out]
      clear HX1 hx0 hx1 c1 hb2
      have y0 : w2.cell? ⟨W.heap.size, 0, none⟩ = some (.slice aA A.length cA) := cell_of HX2.out 0 _ rfl
      have y1 : w2.cell? ⟨W.heap.size, 1, none⟩ = some (.slice aI I.length cI) := cell_of HX2.out 1 _ rfl
      go_wp2_with fail
      refine (HC0.out w2 c2).mono ?_
      rintro e w3 ⟨rfl, hbX⟩
      have c3 := bt c2 hbX (Nat.le_refl _)
      have HX3 := Lib.hid (blk_keep HX2.out hbX)
      clear hbX HX2 y0 y1
      have y0 : w3.cell? ⟨W.heap.size, 0, none⟩ = some (.slice aA A.length cA) := cell_of HX3.out 0 _ rfl
      have y1 : w3.cell? ⟨W.heap.size, 1, none⟩ = some (.slice aI I.length cI) := cell_of HX3.out 1 _ rfl
      go_wp2_with fail
      refine (HV0.out w3 c3).mono ?_
      rintro e w4 ⟨rfl, hbX⟩
      have c4 := bt c3 hbX (Nat.le_refl _)
      have HX4 := Lib.hid (blk_keep HX3.out hbX)
      clear hbX HX3 y0 y1
      have y0 : w4.cell? ⟨W.heap.size, 0, none⟩ = some (.slice aA A.length cA) := cell_of HX4.out 0 _ rfl
      have y1 : w4.cell? ⟨W.heap.size, 1, none⟩ = some (.slice aI I.length cI) := cell_of HX4.out 1 _ rfl
      go_wp2_with fail
      refine (HM0.out w4 c4).mono ?_
      rintro e w5 ⟨rfl, hbX⟩
      have c5 := bt c4 hbX (Nat.le_refl _)
      have HX5 := Lib.hid (blk_keep HX4.out hbX)
      clear hbX HX4 y0 y1
      go_wp2
      go_ret
      exact ⟨rfl, c5⟩
    · have HC0 := Lib.hid (fun (v : World) (hv : Below W.heap.size W v) => counted_yes aA aI aL cA cI cL A I L v (by omega) (by omega) (by omega) hZA hZI hZL (HA.out.below hv) (HI.out.below hv) (HL.out.below hv) hf)
      have HV0 := Lib.hid (fun (v : World) (hv : Below W.heap.size W v) => pvalue_yes aA aI aL cA cI cL A I L v (by omega) (by omega) (by omega) hZA hZI hZL (HA.out.below hv) (HI.out.below hv) (HL.out.below hv) hf)
      have HM0 := Lib.hid (fun (v : World) (hv : Below W.heap.size W v) => market_yes aA aI aL cA cI cL A I L v (by omega) (by omega) (by omega) hZA hZI hZL (HA.out.below hv) (HI.out.below hv) (HL.out.below hv) hf)
      have HF := Lib.hid (fits_of hf)
      obtain ⟨v0, v1, v2⟩ := val_bound HF.out
      have HVN := Lib.hid (show val ((mkP A L).take L.length) (moF I) = val (mkP A L) (moF I) by rw [← mkP_len A L, List.take_length])
      have HV00 := Lib.hid (show val ((mkP A L).take 0) (moF I) = 0 by rfl)
      have HVR := Lib.hid (fun (i : Nat) (hi : i ≤ L.length) => val_take_range HF.out (A := A) (I := I) i hi)
      have HVS := Lib.hid (fun (i : Nat) (hi : i < L.length) => val_take (A := A) (I := I) (L := L) i hi)
      obtain ⟨VS, hVS⟩ : ∃ VS : Nat → Int, VS = fun i => val ((mkP A L).take i) (moF I) := ⟨_, rfl⟩
      change Hid (∀ i, i ≤ L.length → 0 ≤ (fun i => val ((mkP A L).take i) (moF I)) i ∧ (fun i => val ((mkP A L).take i) (moF I)) i ≤ 1125899906842624) at HVR
      change Hid (∀ i, i < L.length → (fun i => val ((mkP A L).take i) (moF I)) (i + 1) = (fun i => val ((mkP A L).take i) (moF I)) i + ctA A I L i) at HVS
      change Hid ((fun i => val ((mkP A L).take i) (moF I)) 0 = 0) at HV00
      change Hid ((fun i => val ((mkP A L).take i) (moF I)) L.length = val (mkP A L) (moF I)) at HVN
      rw [← hVS] at HVR HVS HV00 HVN
      clear hVS
      change Hid (∀ (v : World), Below W.heap.size W v → Calls _ _ _ v fun e w' => ∃ a c, e = .returned (.tuple #[.slice a L.length c, .int .i64 0]) ∧ OwnL w' v.heap.size 3 1 ic (.slice a L.length c) (cts A I L) ∧ Below v.heap.size v w') at HC0
      generalize val (mkP A L) (moF I) = V at *
      generalize mkt (mkP A L) (moF I) = M0 at *
      have n1 : ¬ M0 < V := by omega
      have n2 : ¬ (1125899906842624 : Int) < M0 := by omega
      clear hf hZA hZI hZL v0 v1 v2
      go_enter Try.func4, Try.ntmps4
      go_wp2_with fail
      generalize W.alloc _ = wo at hbo HX0 ⊢
      refine (alive_any wo).mono ?_
      rintro e w1 ⟨rfl, hb1⟩
      have c1 := bt hbo hb1 (Nat.le_refl _)
      have HX1 := Lib.hid (blk_keep HX0.out hb1)
      have hx0 : w1.cell? ⟨W.heap.size, 0, none⟩ = some (.slice aA A.length cA) := cell_of HX1.out 0 _ rfl
      have hx1 : w1.cell? ⟨W.heap.size, 1, none⟩ = some (.slice aI I.length cI) := cell_of HX1.out 1 _ rfl
      clear HX0 hb1 hbo
      go_wp2_with fail
      refine (great_any aA aI aL A.length I.length L.length cA cI cL w1).mono ?_
      rintro e w2 ⟨rfl, hb2⟩
      have c2 := bt c1 hb2 (Nat.le_refl _)
      have HX2 := Lib.hid (blk_keep HX1.out hb2)
      rw [HG.out]
      clear HX1 hx0 hx1 c1 hb2
      have y0 : w2.cell? ⟨W.heap.size, 0, none⟩ = some (.slice aA A.length cA) := cell_of HX2.out 0 _ rfl
      have y1 : w2.cell? ⟨W.heap.size, 1, none⟩ = some (.slice aI I.length cI) := cell_of HX2.out 1 _ rfl
      go_wp2_with fail
      refine (HC0.out w2 c2).mono ?_
      rintro e w3 ⟨aC, cC, rfl, hOC, hbX⟩
      have c3 := bt c2 hbX (Nat.le_refl _)
      have HX3 := Lib.hid (blk_keep HX2.out hbX)
      have C3 := Lib.hid (hOC.sl ic_len).1
      clear hOC HC0
      clear hbX HX2 y0 y1
      have y0 : w3.cell? ⟨W.heap.size, 0, none⟩ = some (.slice aA A.length cA) := cell_of HX3.out 0 _ rfl
      have y1 : w3.cell? ⟨W.heap.size, 1, none⟩ = some (.slice aI I.length cI) := cell_of HX3.out 1 _ rfl
      go_wp2_with fail
      refine (HV0.out w3 c3).mono ?_
      rintro e w4 ⟨rfl, hbX⟩
      have c4 := bt c3 hbX (Nat.le_refl _)
      have HX4 := Lib.hid (blk_keep HX3.out hbX)
      have C4 := Lib.hid (C3.out.below hbX)
      clear C3 HV0
      clear hbX HX3 y0 y1
      have y0 : w4.cell? ⟨W.heap.size, 0, none⟩ = some (.slice aA A.length cA) := cell_of HX4.out 0 _ rfl
      have y1 : w4.cell? ⟨W.heap.size, 1, none⟩ = some (.slice aI I.length cI) := cell_of HX4.out 1 _ rfl
      go_wp2_with fail
      refine (HM0.out w4 c4).mono ?_
      rintro e w5 ⟨rfl, hbX⟩
      have c5 := bt c4 hbX (Nat.le_refl _)
      have HX5 := Lib.hid (blk_keep HX4.out hbX)
      have C5 := Lib.hid (C4.out.below hbX)
      clear C4 HM0
      clear hbX HX4 y0 y1
      go_wp2_with fail
      clear HG n1 n2
      go_loopw [12, 13, 14, 15, 16, 17, 18, 19, 20, 21, 22] (fun s i _ _ _ _ _ _ _ _ _ wr => ∃ k : Nat, k ≤ L.length ∧ i = .int .i64 k ∧ s = .int .i64 (VS k) ∧ Hid (Below w5.heap.size w5 wr)) (fun _ i _ _ _ _ _ _ _ _ _ _ => L.length - (intOf i).toNat)
      case atStart => exact ⟨0, by omega, rfl, by rw [HV00.out], Below.refl _ _⟩
      case round =>
        obtain ⟨k, hk, rfl, rfl, HBW⟩ := hrel
        have HX := Lib.hid (blk_keep HX5.out HBW.out)
        have HC := Lib.hid (C5.out.below HBW.out)
        have cw := c5.trans (HBW.out.mono c5.size)
        rcases Nat.lt_or_ge k L.length with hlt | hge
        · have hki : (k : Int) < L.length := by omega
          have hk0 : (0 : Int) ≤ (k : Int) := by omega
          obtain ⟨lb, lo, rfl, q0, q1⟩ := at_is (HL.out.below cw) k hlt
          change _ = some (Value.string (gi L k).1) at q0
          change _ = some (Value.int .i64 (gi L k).2) at q1
          obtain ⟨cb, co, rfl, z0⟩ := at_int HC.out k (by rw [cts_len]; exact hlt)
          change _ = some (Value.int .i64 (ctA A I L k)) at z0
          have HRES := Lib.hid (fun (v : World) (hv : Below wr.heap.size wr v) => lfound_any aA aI cA cI I.length A (gi L k).1 (fnA A (gi L k).1) v (by omega) (HA.out.below (cw.trans (hv.mono cw.size))) (fidx_first _ _ _))
          rw [oa_is, HF.out.fL k hlt] at HRES
          have hr := (asF_range HF.out k hlt).1
          have hu := HF.out.rL k hlt
          have hcr := ctA_range HF.out k hlt
          obtain ⟨hB1, hB2, hB3⟩ := bounds_at HF.out k hlt
          have hpr := prod_range hr (n := (gi L k).2) (by omega) hu.2
          have HVK := Lib.hid (HVS.out k hlt)
          have hvk := HVR.out k (by omega)
          have hvk1 := HVR.out (k + 1) (by omega)
          have HMO := Lib.hid (show moK I I.length (asF A (gi L k).1).iss = moF I (asF A (gi L k).1).iss by rw [moK_full I HF.out.sI])
          have MK0 := Lib.hid (show moK I 0 (asF A (gi L k).1).iss = 0 from rfl)
          have MKS := Lib.hid (fun (j : Nat) => (show moK I (j + 1) (asF A (gi L k).1).iss = if (gi I j).1 = (asF A (gi L k).1).iss then (gi I j).2 else moK I j (asF A (gi L k).1).iss from rfl))
          obtain ⟨MK, hMK⟩ : ∃ MK : Nat → Int, MK = fun j => moK I j (asF A (gi L k).1).iss := ⟨_, rfl⟩
          change Hid ((fun j => moK I j (asF A (gi L k).1).iss) I.length = moF I (asF A (gi L k).1).iss) at HMO
          change Hid ((fun j => moK I j (asF A (gi L k).1).iss) 0 = 0) at MK0
          change Hid (∀ j : Nat, (fun j => moK I j (asF A (gi L k).1).iss) (j + 1) = if (gi I j).1 = (asF A (gi L k).1).iss then (gi I j).2 else (fun j => moK I j (asF A (gi L k).1).iss) j) at MKS
          rw [← hMK] at HMO MK0 MKS
          clear hMK
          have SQ0 := Lib.hid (show sqA A I L (asF A (gi L k).1).iss 0 = 0 from rfl)
          have SQR := Lib.hid (fun (j : Nat) (hj : j ≤ L.length) => sqA_range HF.out (asF A (gi L k).1).iss j hj)
          have SQS := Lib.hid (fun (j : Nat) (_ : j < L.length) => (show sqA A I L (asF A (gi L k).1).iss (j + 1) = if (asF A (gi L j).1).iss = (asF A (gi L k).1).iss then sqA A I L (asF A (gi L k).1).iss j + ctA A I L j else sqA A I L (asF A (gi L k).1).iss j from rfl))
          generalize sqA A I L (asF A (gi L k).1).iss = SQ at *
          generalize asF A (gi L k).1 = x at *
          obtain ⟨c, hc⟩ : ∃ c, c = ctA A I L k := ⟨_, rfl⟩
          have HCK := Lib.hid hc
          rw [← hc] at z0 HVK hcr hB1 hB2 hB3
          obtain ⟨u, hu'⟩ : ∃ u, u = (gi L k).2 := ⟨_, rfl⟩
          have HU := Lib.hid hu'
          rw [← hu'] at q1 hu hB1 hB3 hpr
          clear hc hu'
          generalize (gi L k).1 = h1 at q0 HRES
          have hbs : lb < wr.heap.size := World.block_lt_of_cell? _ _ q0
          have x0 : wr.cell? ⟨W.heap.size, 0, none⟩ = some (.slice aA A.length cA) := cell_of HX.out 0 _ rfl
          have x1 : wr.cell? ⟨W.heap.size, 1, none⟩ = some (.slice aI I.length cI) := cell_of HX.out 1 _ rfl
          have hxl := blk_lt HX.out
          go_wp2_with fail
          go_upto_region 15 with fail
          go_cut [14, 15] from 104 to 113 (fun p q wn => ∃ B : Nat, p = .pointer (some ⟨B, 0, none⟩) ∧ q = .bool true ∧ Hid (wn.heap[B]? = some (.cells #[.string x.nm, .string x.iss, .int .i64 x.pr, .int .i64 x.hc, .int .i64 x.mo, .bool x.el] 48 (0, 0)) ∧ Below wr.heap.size wr wn ∧ wr.heap.size ≤ B))
          case first =>
            have n1 : wr.heap.size ≠ W.heap.size := by omega
            have n2 : wr.heap.size ≠ lb := by omega
            go_region_held3 (fun w' => w'.cell? ⟨W.heap.size, 0, none⟩ = some (.slice aA A.length cA) ∧ w'.cell? ⟨W.heap.size, 1, none⟩ = some (.slice aI I.length cI) ∧ w'.cell? ⟨lb, lo + k * 2, none⟩ = some (.string h1))
              (first | (go_split_ands; refine ⟨?_, ?_, ?_⟩ <;> go_keep; done) | (go_split_ands; refine ⟨?_, ?_, ?_⟩ <;> refine keep ?_ hb3 <;> go_keep; done))
              (first
                | (go_at_call 28; refine (HRES.out wr.drew (Below.drew (Below.refl _ _))).mono ?_; rintro e w3 ⟨rfl, hb3⟩; have e0 : wr.heap.size ≤ w3.heap.size := hb3.size; have e1 : w3.heap.size ≠ W.heap.size := (by omega); have e2 : w3.heap.size ≠ lb := (by omega); have y0 : w3.cell? ⟨W.heap.size, 0, none⟩ = some (.slice aA A.length cA) := keep (w := wr.drew) x0 hb3; have y1 : w3.cell? ⟨W.heap.size, 1, none⟩ = some (.slice aI I.length cI) := keep (w := wr.drew) x1 hb3; have y2 : w3.cell? ⟨lb, lo + k * 2, none⟩ = some (.string h1) := keep (w := wr.drew) q0 hb3; have HFN := Lib.hid (lk_new wr w3 hb3 #[.string x.nm, .string x.iss, .int .i64 x.pr, .int .i64 x.hc, .int .i64 x.mo, .bool x.el] 48))
                | (go_at_call 28; refine (HRES.out (wr.drew.alloc (.cells #[.string ⟨#[]⟩, .string ⟨#[]⟩, .int .i64 0, .int .i64 0, .int .i64 0, .bool false] 48)) ((Below.drew (Below.refl _ _)).alloc (Nat.le_refl _) _)).mono ?_; rintro e w3 ⟨rfl, hb3⟩; have zz := blk_keep (blk_new wr.drew (.cells #[.string ⟨#[]⟩, .string ⟨#[]⟩, .int .i64 0, .int .i64 0, .int .i64 0, .bool false] 48)) hb3; have z0 : w3.cell? ⟨wr.heap.size, 0, none⟩ = some (.string ⟨#[]⟩) := cell_of zz 0 _ rfl; have f0 : w3.frozen? ⟨wr.heap.size, 0, none⟩ = false := frozen_of zz 0; have z1 : w3.cell? ⟨wr.heap.size, 1, none⟩ = some (.string ⟨#[]⟩) := cell_of zz 1 _ rfl; have f1 : w3.frozen? ⟨wr.heap.size, 1, none⟩ = false := frozen_of zz 1; have z2 : w3.cell? ⟨wr.heap.size, 2, none⟩ = some (.int .i64 0) := cell_of zz 2 _ rfl; have f2 : w3.frozen? ⟨wr.heap.size, 2, none⟩ = false := frozen_of zz 2; have z3 : w3.cell? ⟨wr.heap.size, 3, none⟩ = some (.int .i64 0) := cell_of zz 3 _ rfl; have f3 : w3.frozen? ⟨wr.heap.size, 3, none⟩ = false := frozen_of zz 3; have z4 : w3.cell? ⟨wr.heap.size, 4, none⟩ = some (.int .i64 0) := cell_of zz 4 _ rfl; have f4 : w3.frozen? ⟨wr.heap.size, 4, none⟩ = false := frozen_of zz 4; have z5 : w3.cell? ⟨wr.heap.size, 5, none⟩ = some (.bool false) := cell_of zz 5 _ rfl; have f5 : w3.frozen? ⟨wr.heap.size, 5, none⟩ = false := frozen_of zz 5; have HFN := Lib.hid (lk_set wr w3 48 hb3 (.string x.nm) (.string x.iss) (.int .i64 x.pr) (.int .i64 x.hc) (.int .i64 x.mo) (.bool x.el))))
            all_goals
              go_wp2
              go_meet
              case rel => exact ⟨_, rfl, rfl, Lib.hid HFN.out⟩
          case rest =>
            obtain ⟨BX, rfl, rfl, HBX⟩ := hcut
            have c6 := Lib.hid (cw.trans (HBX.out.2.1.mono cw.size))
            have HX6 := Lib.hid (blk_keep HX.out HBX.out.2.1)
            have HB6 := Lib.hid HBX.out.1
            have C6 := Lib.hid (HC.out.below HBX.out.2.1)
            have HBK := Lib.hid (HBW.out.trans (HBX.out.2.1.mono HBW.out.size))
            have q1c := keep q1 HBX.out.2.1
            have z0c := keep z0 HBX.out.2.1
            have b1 : wc.cell? ⟨BX, 1, none⟩ = some (.string x.iss) := cell_of HBX.out.1 1 _ rfl
            have b2 : wc.cell? ⟨BX, 2, none⟩ = some (.int .i64 x.pr) := cell_of HBX.out.1 2 _ rfl
            have b3 : wc.cell? ⟨BX, 3, none⟩ = some (.int .i64 x.hc) := cell_of HBX.out.1 3 _ rfl
            have b4 : wc.cell? ⟨BX, 4, none⟩ = some (.int .i64 x.mo) := cell_of HBX.out.1 4 _ rfl
            have b5 : wc.cell? ⟨BX, 5, none⟩ = some (.bool x.el) := cell_of HBX.out.1 5 _ rfl
            clear HRES HX HC HBX HBW x0 x1 q0 q1 z0 hxl hbs cw
            obtain ⟨r0, r1, r2, r3, r4, r5⟩ := hr
            obtain ⟨p1, hp1⟩ : ∃ p1, p1 = u * x.pr := ⟨_, rfl⟩
            obtain ⟨hx, hhx⟩ : ∃ hx, hx = 1000 - x.hc := ⟨_, rfl⟩
            obtain ⟨p2, hp2⟩ : ∃ p2, p2 = p1 * hx := ⟨_, rfl⟩
            rw [← hp1, ← hhx, ← hp2] at hpr hB1 hB3
            have w2 : IntKind.i64.wrap (c * 1000) = c * 1000 := by rw [IntKind.wrap_i64]; omega
            have w3 : IntKind.i64.wrap (u * x.pr) = p1 := by rw [IntKind.wrap_i64, ← hp1]; omega
            have w4 : IntKind.i64.wrap (1000 - x.hc) = hx := by rw [IntKind.wrap_i64, ← hhx]; omega
            have w5' : IntKind.i64.wrap (p1 * hx) = p2 := by rw [IntKind.wrap_i64, ← hp2]; omega
            have d1 : decide (c < 0) = false := decide_eq_false (by omega)
            have d2 : decide (x.mo < c) = false := decide_eq_false (by omega)
            have d3 : decide (p2 < c * 1000) = false := decide_eq_false (by omega)
            clear hp1 hhx hp2
            go_wp2_with fail
            go_upto_region 16 with fail
            go_cut [163] from 114 to 163 (fun q wn => q = .bool false ∧ Hid (Below wc.heap.size wc wn))
            case first =>
              rcases hb x.el with he | he
              · rw [he] at b5
                clear he hB2 hB3
                go_big_quiet (fail)
                go_wp2
                go_meet
                case rel => exact ⟨rfl, Lib.hid (below_drewN (Below.refl _ _) _)⟩
              · have d4 : (c != 0) = false := by rw [hB2 he]; rfl
                rw [he] at b5
                clear he hB2 hB3
                go_big_quiet (fail)
                go_wp2
                go_meet
                case rel => exact ⟨rfl, Lib.hid (below_drewN (Below.refl _ _) _)⟩
            case rest =>
              obtain ⟨rfl, HQ⟩ := hcut
              have c7 := Lib.hid (c6.out.trans (HQ.out.mono c6.out.size))
              have HX7 := Lib.hid (blk_keep HX6.out HQ.out)
              have HB7 := Lib.hid (blk_keep HB6.out HQ.out)
              have C7 := Lib.hid (C6.out.below HQ.out)
              have HK7 := Lib.hid (HBK.out.trans (HQ.out.mono HBK.out.size))
              have HW3 := Lib.hid w3
              have HW4 := Lib.hid w4
              have HW5 := Lib.hid w5'
              clear HX6 HB6 C6 c6 HBK HQ q1c z0c b1 b2 b3 b4 b5 w2 w3 w4 w5' d1 d2 d3
              go_wp2_with fail
              go_loopw [16, 18, 19, 20] (fun s k2 _ _ wv => ∃ j : Nat, j ≤ L.length ∧ k2 = .int .i64 j ∧ s = .int .i64 (SQ j) ∧ Hid (Below wc.heap.size wc wv)) (fun _ k2 _ _ _ => L.length - (intOf k2).toNat)
              case atStart => exact ⟨0, by omega, rfl, by rw [SQ0.out], Below.refl _ _⟩
              case round =>
                obtain ⟨j, hj, rfl, rfl, HBV⟩ := hrel
                have HXV := Lib.hid (blk_keep HX7.out HBV.out)
                have HXX := Lib.hid (blk_keep HB7.out HBV.out)
                have HCV := Lib.hid (C7.out.below HBV.out)
                have cv := c7.out.trans (HBV.out.mono c7.out.size)
                have x0 : wr.cell? ⟨W.heap.size, 0, none⟩ = some (.slice aA A.length cA) := cell_of HXV.out 0 _ rfl
                have x1 : wr.cell? ⟨W.heap.size, 1, none⟩ = some (.slice aI I.length cI) := cell_of HXV.out 1 _ rfl
                rcases Nat.lt_or_ge j L.length with hjl | hge
                · have hji : (j : Int) < L.length := by omega
                  have hj0 : (0 : Int) ≤ (j : Int) := by omega
                  have q0 := (at_is' (HL.out.below cv) j hjl).1
                  change _ = some (Value.string (gi L j).1) at q0
                  have z0 := at_int' HCV.out j (by rw [cts_len]; exact hjl)
                  change _ = some (Value.int .i64 (ctA A I L j)) at z0
                  have HRES := Lib.hid (fun (v : World) (hv : Below wr.heap.size wr v) => lfound_any aA aI cA cI I.length A (gi L j).1 (fnA A (gi L j).1) v (by omega) (HA.out.below (cv.trans (hv.mono cv.size))) (fidx_first _ _ _))
                  rw [oa_is] at HRES
                  have HSQ := Lib.hid (SQS.out j hjl)
                  have hs0 := SQR.out j hj
                  have hs1 := SQR.out (j + 1) (by omega)
                  generalize (fnA A (gi L j).1).isSome = sb at *
                  generalize asF A (gi L j).1 = y at *
                  generalize (gi L j).1 = h2 at *
                  generalize ctA A I L j = cj at *
                  have hbs : lb < wr.heap.size := World.block_lt_of_cell? _ _ q0
                  have hxl := blk_lt HXV.out
                  go_wp2_with fail
                  go_upto_region 22 with fail
                  go_cut [19, 20] from 170 to 179 (fun p q wn => ∃ B : Nat, p = .pointer (some ⟨B, 0, none⟩) ∧ q = .bool sb ∧ Hid (wn.heap[B]? = some (.cells #[.string y.nm, .string y.iss, .int .i64 y.pr, .int .i64 y.hc, .int .i64 y.mo, .bool y.el] 48 (0, 0)) ∧ Below wr.heap.size wr wn ∧ wr.heap.size ≤ B))
                  case first =>
                    have n1 : wr.heap.size ≠ W.heap.size := by omega
                    have n2 : wr.heap.size ≠ lb := by omega
                    go_region_held3 (fun w' => w'.cell? ⟨W.heap.size, 0, none⟩ = some (.slice aA A.length cA) ∧ w'.cell? ⟨W.heap.size, 1, none⟩ = some (.slice aI I.length cI) ∧ w'.cell? ⟨lb, lo + j * 2, none⟩ = some (.string h2))
                      (first | (go_split_ands; refine ⟨?_, ?_, ?_⟩ <;> go_keep; done) | (go_split_ands; refine ⟨?_, ?_, ?_⟩ <;> refine keep ?_ hb3 <;> go_keep; done))
                      (first
                        | (go_at_call 28; refine (HRES.out wr.drew (Below.drew (Below.refl _ _))).mono ?_; rintro e w3 ⟨rfl, hb3⟩; have e0 : wr.heap.size ≤ w3.heap.size := hb3.size; have e1 : w3.heap.size ≠ W.heap.size := (by omega); have e2 : w3.heap.size ≠ lb := (by omega); have y0 : w3.cell? ⟨W.heap.size, 0, none⟩ = some (.slice aA A.length cA) := keep (w := wr.drew) x0 hb3; have y1 : w3.cell? ⟨W.heap.size, 1, none⟩ = some (.slice aI I.length cI) := keep (w := wr.drew) x1 hb3; have y2 : w3.cell? ⟨lb, lo + j * 2, none⟩ = some (.string h2) := keep (w := wr.drew) q0 hb3; have HFN := Lib.hid (lk_new wr w3 hb3 #[.string y.nm, .string y.iss, .int .i64 y.pr, .int .i64 y.hc, .int .i64 y.mo, .bool y.el] 48))
                        | (go_at_call 28; refine (HRES.out (wr.drew.alloc (.cells #[.string ⟨#[]⟩, .string ⟨#[]⟩, .int .i64 0, .int .i64 0, .int .i64 0, .bool false] 48)) ((Below.drew (Below.refl _ _)).alloc (Nat.le_refl _) _)).mono ?_; rintro e w3 ⟨rfl, hb3⟩; have zz := blk_keep (blk_new wr.drew (.cells #[.string ⟨#[]⟩, .string ⟨#[]⟩, .int .i64 0, .int .i64 0, .int .i64 0, .bool false] 48)) hb3; have z0 : w3.cell? ⟨wr.heap.size, 0, none⟩ = some (.string ⟨#[]⟩) := cell_of zz 0 _ rfl; have f0 : w3.frozen? ⟨wr.heap.size, 0, none⟩ = false := frozen_of zz 0; have z1 : w3.cell? ⟨wr.heap.size, 1, none⟩ = some (.string ⟨#[]⟩) := cell_of zz 1 _ rfl; have f1 : w3.frozen? ⟨wr.heap.size, 1, none⟩ = false := frozen_of zz 1; have z2 : w3.cell? ⟨wr.heap.size, 2, none⟩ = some (.int .i64 0) := cell_of zz 2 _ rfl; have f2 : w3.frozen? ⟨wr.heap.size, 2, none⟩ = false := frozen_of zz 2; have z3 : w3.cell? ⟨wr.heap.size, 3, none⟩ = some (.int .i64 0) := cell_of zz 3 _ rfl; have f3 : w3.frozen? ⟨wr.heap.size, 3, none⟩ = false := frozen_of zz 3; have z4 : w3.cell? ⟨wr.heap.size, 4, none⟩ = some (.int .i64 0) := cell_of zz 4 _ rfl; have f4 : w3.frozen? ⟨wr.heap.size, 4, none⟩ = false := frozen_of zz 4; have z5 : w3.cell? ⟨wr.heap.size, 5, none⟩ = some (.bool false) := cell_of zz 5 _ rfl; have f5 : w3.frozen? ⟨wr.heap.size, 5, none⟩ = false := frozen_of zz 5; have HFN := Lib.hid (lk_set wr w3 48 hb3 (.string y.nm) (.string y.iss) (.int .i64 y.pr) (.int .i64 y.hc) (.int .i64 y.mo) (.bool y.el))))
                    all_goals
                      go_wp2
                      go_meet
                      case rel => exact ⟨_, rfl, rfl, Lib.hid HFN.out⟩
                  case rest =>
                    obtain ⟨BY, rfl, rfl, HBX⟩ := hcut
                    have k7 := Lib.hid (HBV.out.trans (HBX.out.2.1.mono HBV.out.size))
                    have g1 : wc.cell? ⟨BY, 1, none⟩ = some (.string y.iss) := cell_of HBX.out.1 1 _ rfl
                    have g2 : wc.cell? ⟨BX, 1, none⟩ = some (.string x.iss) := cell_of (blk_keep HXX.out HBX.out.2.1) 1 _ rfl
                    have z1 := keep z0 HBX.out.2.1
                    clear HRES HXV HXX HCV HBX HBV x0 x1 q0 z0 hbs hxl cv
                    by_cases he : y.iss = x.iss
                    · have heq := eq_yes he
                      have HSN := HSQ
                      rw [if_pos he] at HSN
                      have e1 : 0 ≤ SQ j + cj := by have := HSN.out; omega
                      have e2 : SQ j + cj ≤ 1125899906842624 := by have := HSN.out; omega
                      clear he HSQ hs0 hs1
                      go_wp2
                      go_roundw
                      case rel => exact ⟨j + 1, by omega, by go_num, by rw [HSN.out], k7⟩
                      case measure => simp [intOf]; omega
                    · have heq := eq_no he
                      have HSN := HSQ
                      rw [if_neg he] at HSN
                      clear he HSQ hs0 hs1
                      go_wp2
                      go_roundw
                      case rel => exact ⟨j + 1, by omega, by go_num, by rw [HSN.out], k7⟩
                      case measure => simp [intOf]; omega
                · obtain rfl : j = L.length := by omega
                  clear x0 x1
                  go_wp2_with fail
                  clear HXV HXX HCV
                  have HX8 := Lib.hid (blk_keep HX7.out HBV.out)
                  have HB8 := Lib.hid (blk_keep HB7.out HBV.out)
                  have C8 := Lib.hid (C7.out.below HBV.out)
                  have c8 := Lib.hid cv
                  have HK8 := Lib.hid (HK7.out.trans (HBV.out.mono HK7.out.size))
                  clear HX7 HB7 C7 c7 HK7 HBV cv
                  go_loopw [17, 21] (fun lm k3 wv => ∃ j : Nat, j ≤ I.length ∧ k3 = .int .i64 j ∧ lm = .int .i64 (MK j) ∧ Hid (Below wr.heap.size wr wv)) (fun _ k3 _ => I.length - (intOf k3).toNat)
                  case atStart => exact ⟨0, by omega, rfl, by rw [MK0.out], Below.refl _ _⟩
                  case round =>
                    obtain ⟨j, hj, rfl, rfl, HBV⟩ := hrel
                    have HXV := Lib.hid (blk_keep HX8.out HBV.out)
                    have HXX := Lib.hid (blk_keep HB8.out HBV.out)
                    have cv := c8.out.trans (HBV.out.mono c8.out.size)
                    have x1 : wr.cell? ⟨W.heap.size, 1, none⟩ = some (.slice aI I.length cI) := cell_of HXV.out 1 _ rfl
                    have b1 : wr.cell? ⟨BX, 1, none⟩ = some (.string x.iss) := cell_of HXX.out 1 _ rfl
                    rcases Nat.lt_or_ge j I.length with hjl | hge
                    · have hji : (j : Int) < I.length := by omega
                      have hj0 : (0 : Int) ≤ (j : Int) := by omega
                      obtain ⟨ib, io, rfl, q0, q1⟩ := at_is (HI.out.below cv) j hjl
                      change _ = some (Value.string (gi I j).1) at q0
                      change _ = some (Value.int .i64 (gi I j).2) at q1
                      have HMS := Lib.hid (MKS.out j)
                      by_cases he : (gi I j).1 = x.iss
                      · have heq := eq_yes he
                        have HSN := HMS
                        rw [if_pos he] at HSN
                        have q2 := fun n => (show (wr.drewN n).cell? ⟨ib, io + j * 2 + 1, none⟩ = some (.int .i64 (gi I j).2) from q1)
                        have x2 := fun n => (show (wr.drewN n).cell? ⟨W.heap.size, 1, none⟩ = some (.slice (some ⟨ib, io, none⟩) I.length cI) from x1)
                        clear he HMS HXV HXX cv
                        go_wp2_with fail
                        go_big_quiet (fail)
                        go_wp2
                        go_roundw
                        case rel => exact ⟨j + 1, by omega, by go_num, by rw [HSN.out], Lib.hid (below_drewN HBV.out _)⟩
                        case measure => simp [intOf]; omega
                      · have heq := eq_no he
                        have HSN := HMS
                        rw [if_neg he] at HSN
                        clear he HMS HXV HXX cv
                        go_wp2_with fail
                        go_big_quiet (fail)
                        go_wp2
                        go_roundw
                        case rel => exact ⟨j + 1, by omega, by go_num, by rw [HSN.out], Lib.hid (below_drewN HBV.out _)⟩
                        case measure => simp [intOf]; omega
                    · obtain rfl : j = I.length := by omega
                      go_wp2_with fail
                      clear HXV x1 b1
                      have HB9 := HXX
                      have C9 := Lib.hid (C8.out.below HBV.out)
                      have c9 := Lib.hid cv
                      have HK9 := Lib.hid (HK8.out.trans (HBV.out.mono HK8.out.size))
                      clear HX8 HB8 C8 c8 HK8 HBV cv HXX
                      have b1 : wr.cell? ⟨BX, 1, none⟩ = some (.string x.iss) := cell_of HB9.out 1 _ rfl
                      have b2 : wr.cell? ⟨BX, 2, none⟩ = some (.int .i64 x.pr) := cell_of HB9.out 2 _ rfl
                      have b3 : wr.cell? ⟨BX, 3, none⟩ = some (.int .i64 x.hc) := cell_of HB9.out 3 _ rfl
                      have b4 : wr.cell? ⟨BX, 4, none⟩ = some (.int .i64 x.mo) := cell_of HB9.out 4 _ rfl
                      have b5 : wr.cell? ⟨BX, 5, none⟩ = some (.bool x.el) := cell_of HB9.out 5 _ rfl
                      have q1 := (at_is' (HL.out.below c9.out) k hlt).2
                      change _ = some (Value.int .i64 (gi L k).2) at q1
                      rw [← HU.out] at q1
                      have z0 := at_int' C9.out k (by rw [cts_len]; exact hlt)
                      change _ = some (Value.int .i64 (ctA A I L k)) at z0
                      rw [← HCK.out] at z0
                      rw [show MK I.length = moF I x.iss from HMO.out]
                      have hsm := (SQR.out L.length (Nat.le_refl _)).2.2
                      have HSL := Lib.hid hsm
                      generalize moF I x.iss = mx at *
                      generalize SQ L.length = sx at *
                      have w2 : IntKind.i64.wrap (c + 1) = c + 1 := by rw [IntKind.wrap_i64]; omega
                      have w2' : IntKind.i64.wrap ((c + 1) * 1000) = (c + 1) * 1000 := by rw [IntKind.wrap_i64]; omega
                      have w3 := HW3.out
                      have w4 := HW4.out
                      have w5' := HW5.out
                      clear HW3 HW4 HW5
                      go_upto_region 30 with fail
                      go_cut [22] from 213 to 250 (fun q wn => q = .bool true ∧ Hid (Below wr.heap.size wr wn))
                      case first =>
                        by_cases hs : sx = mx
                        · have d1 : (sx == mx) = true := by rw [beq_iff_eq]; exact hs
                          clear hs hB3 hsm
                          go_big_quiet (fail)
                          go_wp2
                          go_meet
                          case rel => exact ⟨rfl, Lib.hid (below_drewN (Below.refl _ _) _)⟩
                        · have d1 : (sx == mx) = false := by rw [beq_eq_false_iff_ne]; exact hs
                          by_cases hm : c = x.mo
                          · have d2 : (c == x.mo) = true := by rw [beq_iff_eq]; exact hm
                            clear hs hB3 hsm hm
                            go_big_quiet (fail)
                            go_wp2
                            go_meet
                            case rel => exact ⟨rfl, Lib.hid (below_drewN (Below.refl _ _) _)⟩
                          · have d2 : (c == x.mo) = false := by rw [beq_eq_false_iff_ne]; exact hm
                            rcases hb x.el with he | he
                            · have d3 : decide (p2 < (c + 1) * 1000) = true := decide_eq_true (hB3 he hs hm)
                              clear hs hB3 hsm hm he
                              go_big_quiet (fail)
                              go_wp2
                              go_meet
                              case rel => exact ⟨rfl, Lib.hid (below_drewN (Below.refl _ _) _)⟩
                            · rw [he] at b5
                              by_cases h3 : p2 < (c + 1) * 1000
                              · have d3 : decide (p2 < (c + 1) * 1000) = true := decide_eq_true h3
                                clear hs hB3 hsm hm he h3
                                go_big_quiet (fail)
                                go_wp2
                                go_meet
                                case rel => exact ⟨rfl, Lib.hid (below_drewN (Below.refl _ _) _)⟩
                              · have d3 : decide (p2 < (c + 1) * 1000) = false := decide_eq_false h3
                                clear hs hB3 hsm hm he h3
                                go_big_quiet (fail)
                                go_wp2
                                go_meet
                                case rel => exact ⟨rfl, Lib.hid (below_drewN (Below.refl _ _) _)⟩
                      case rest =>
                        obtain ⟨rfl, HQ⟩ := hcut
                        have z1 := keep z0 HQ.out
                        have hns : ¬ mx < sx := by have := HSL.out; omega
                        have K9 := Lib.hid (HK9.out.trans (HQ.out.mono HK9.out.size))
                        have hv2 := HVK.out
                        have v0 : 0 ≤ VS k + c := by omega
                        have v1 : VS k + c ≤ 1125899906842624 := by omega
                        clear hsm hB3 w2 w2' w3 w4 w5' b1 b2 b3 b4 b5 q1 z0 HQ hv2
                        go_wp2
                        go_roundw
                        case rel => exact ⟨k + 1, by omega, by go_num, by rw [HVK.out], K9⟩
                        case measure => simp [intOf]; omega
        · obtain rfl : k = L.length := by omega
          rw [HVN.out]
          have hq : (V == V) = true := by rw [beq_iff_eq]
          have cE := cw
          go_wp2
          go_ret
          exact ⟨rfl, cE⟩
end Go.Proofs.Ytbfgnkakcnhojaa.Co

