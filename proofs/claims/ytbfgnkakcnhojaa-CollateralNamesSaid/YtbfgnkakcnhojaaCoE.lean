/-
  Collateral: the walks of the reference's Market, Counted and Value.
-/
import Derived.Test.YtbfgnkakcnhojaaCoD
namespace Go.Proofs.Ytbfgnkakcnhojaa.Co
open Go.RowKit Go.Proofs.Ytbfgnkakcnhojaa Go.Proofs.Ytbfgnkakcnhojaa.Ls Go.Proofs.Ytbfgnkakcnhojaa.Kb
open Go.Proofs.Ytbfgnkakcnhojaa.Nm hiding ret_bool ret_int

theorem gl_fst (P : List (As × Int)) (x : As × Int) (m : ByteArray → Int) : mkt (P ++ [x]) m = mkt P m + x.2 * x.1.pr := by unfold mkt; rw [gl_append, List.map_append, List.map_cons, List.map_nil, sm_snoc]
theorem gl_snd (P : List (As × Int)) (x : As × Int) (m : ByteArray → Int) : val (P ++ [x]) m = val P m + cvl x.1 x.2 (fin P m x.1.iss) := by unfold val; rw [gl_append, List.map_append, List.map_cons, List.map_nil, sm_snoc]
/-- the price of the asset of a name -/
theorem oa_is (A : List As) (t : ByteArray) : oa A (fnA A t) = asF A t := rfl

set_option maxRecDepth 100000 in
set_option maxHeartbeats 2000000 in
theorem rmarket_no (aA aI aL : Option Addr) (cA cI cL : Nat) (A : List As) (I L : List (ByteArray × Int)) (w : World) (hnA : A.length ≤ 1000) (hnI : I.length ≤ 1000) (hnL : L.length ≤ 1000) (hZA : SzA A) (hZI : SzL I) (hZL : SzL L) (hA : AtL w 6 asc aA A) (hI : AtL w 2 isc aI I) (hL : AtL w 2 isc aL L) (hF : fitB A I L = false) :
    Calls Try.prog 15 #[.agg #[.slice aA A.length cA, .slice aI I.length cI], .slice aL L.length cL] w fun e w' => e = .returned (.tuple #[.int .i64 0, .int .i64 8]) ∧ Below w.heap.size w w' := by
  have hbo : Below w.heap.size w (w.alloc (.cells #[.slice aA A.length cA, .slice aI I.length cI] 25)) := (Below.refl _ _).alloc (Nat.le_refl _) _
  have HC := Lib.hid (rcheck_any aA aI aL cA cI cL A I L _ hnA hnI hnL hZA hZI hZL (hA.below hbo) (hI.below hbo) (hL.below hbo))
  rw [hF] at HC
  clear hF hA hI hL
  go_enter Try.func15, Try.ntmps15
  go_wp2_with fail
  refine HC.out.mono ?_
  rintro e w1 ⟨rfl, hb1⟩
  have c1 := bt hbo hb1 (Nat.le_refl _)
  clear HC
  rw [show eV false = 8 from rfl]
  go_wp2
  go_ret2
  exact ⟨rfl, c1⟩

set_option maxRecDepth 100000 in
set_option maxHeartbeats 2000000 in
theorem rcounted_no (aA aI aL : Option Addr) (cA cI cL : Nat) (A : List As) (I L : List (ByteArray × Int)) (w : World) (hnA : A.length ≤ 1000) (hnI : I.length ≤ 1000) (hnL : L.length ≤ 1000) (hZA : SzA A) (hZI : SzL I) (hZL : SzL L) (hA : AtL w 6 asc aA A) (hI : AtL w 2 isc aI I) (hL : AtL w 2 isc aL L) (hF : fitB A I L = false) :
    Calls Try.prog 17 #[.agg #[.slice aA A.length cA, .slice aI I.length cI], .slice aL L.length cL] w fun e w' => e = .returned (.tuple #[.slice none 0 0, .int .i64 8]) ∧ Below w.heap.size w w' := by
  have hbo : Below w.heap.size w (w.alloc (.cells #[.slice aA A.length cA, .slice aI I.length cI] 25)) := (Below.refl _ _).alloc (Nat.le_refl _) _
  have HC := Lib.hid (rcheck_any aA aI aL cA cI cL A I L _ hnA hnI hnL hZA hZI hZL (hA.below hbo) (hI.below hbo) (hL.below hbo))
  rw [hF] at HC
  clear hF hA hI hL
  go_enter Try.func17, Try.ntmps17
  go_wp2_with fail
  refine HC.out.mono ?_
  rintro e w1 ⟨rfl, hb1⟩
  have c1 := bt hbo hb1 (Nat.le_refl _)
  clear HC
  rw [show eV false = 8 from rfl]
  go_wp2
  go_ret2
  exact ⟨rfl, c1⟩

set_option maxRecDepth 100000 in
set_option maxHeartbeats 4000000 in
theorem rmarket_yes (aA aI aL : Option Addr) (cA cI cL : Nat) (A : List As) (I L : List (ByteArray × Int)) (w : World) (hnA : A.length ≤ 1000) (hnI : I.length ≤ 1000) (hnL : L.length ≤ 1000) (hZA : SzA A) (hZI : SzL I) (hZL : SzL L) (hA : AtL w 6 asc aA A) (hI : AtL w 2 isc aI I) (hL : AtL w 2 isc aL L) (hF : fitB A I L = true) :
    Calls Try.prog 15 #[.agg #[.slice aA A.length cA, .slice aI I.length cI], .slice aL L.length cL] w fun e w' => e = .returned (.tuple #[.int .i64 (mkt (mkP A L) (moF I)), .int .i64 0]) ∧ Below w.heap.size w w' := by
  have HFT := Lib.hid (fits_of hF)
  have hlL := (fits_of hF).lL
  have hbo : Below w.heap.size w (w.alloc (.cells #[.slice aA A.length cA, .slice aI I.length cI] 25)) := (Below.refl _ _).alloc (Nat.le_refl _) _
  have HX0 := Lib.hid (blk_new w (.cells #[.slice aA A.length cA, .slice aI I.length cI] 25))
  have HC := Lib.hid (rcheck_any aA aI aL cA cI cL A I L _ hnA hnI hnL hZA hZI hZL (hA.below hbo) (hI.below hbo) (hL.below hbo))
  rw [hF] at HC
  have HA := Lib.hid hA
  have HI := Lib.hid hI
  have HL := Lib.hid hL
  have HLEN := Lib.hid (mkP_len A L)
  have HIN := Lib.hid (mkP_in HFT.out)
  have HTK := Lib.hid (mkP_take A L)
  have HM0 := Lib.hid (moF_range HFT.out)
  have HMI : Hid (∀ t, (oi I (fnI I t)).2 = moF I t) := fun _ => rfl
  obtain ⟨M0, hM0⟩ : ∃ m, m = moF I := ⟨_, rfl⟩
  obtain ⟨P, hP⟩ : ∃ P, P = mkP A L := ⟨_, rfl⟩
  rw [← hM0] at HM0 HMI ⊢
  rw [← hP] at HLEN HIN HTK ⊢
  clear hA hI hL hF hM0 hP
  go_enter Try.func15, Try.ntmps15
  go_wp2_with fail
  generalize w.alloc _ = wo at hbo HX0 HC ⊢
  refine HC.out.mono ?_
  rintro e w1 ⟨rfl, hb1⟩
  have c1 := bt hbo hb1 (Nat.le_refl _)
  have HX1 := Lib.hid (blk_keep HX0.out hb1)
  clear HC HX0 hb1 hbo
  rw [show eV true = 0 from rfl]
  go_wp2_with fail
  go_loopw [6, 7, 8, 9] (fun s i _ _ wr => ∃ k : Nat, k ≤ L.length ∧ i = .int .i64 k ∧ s = .int .i64 (mkt (P.take k) M0) ∧ Below w.heap.size w wr ∧ Hid (wr.heap[w.heap.size]? = some (.cells #[.slice aA A.length cA, .slice aI I.length cI] 25 (0, 0)))) (fun _ i _ _ _ => L.length - (intOf i).toNat)
  case atStart => exact ⟨0, by omega, rfl, rfl, c1, HX1⟩
  case round =>
    clear HX1 c1
    obtain ⟨k, hk, rfl, rfl, hbw, HX⟩ := hrel
    rcases Nat.lt_or_ge k L.length with hlt | hge
    · have hki : (k : Int) < L.length := by omega
      have hk0 : (0 : Int) ≤ (k : Int) := by omega
      obtain ⟨lb, lo, rfl, q0, q1⟩ := at_is (HL.out.below hbw) k (by omega)
      change _ = some (Value.string (gi L k).1) at q0
      change _ = some (Value.int .i64 (gi L k).2) at q1
      have HTk := Lib.hid (HTK.out k (by omega))
      obtain ⟨hr, jj, hj, hfj, hgj⟩ := asF_range HFT.out k (by omega)
      have hu := HFT.out.rL k (by omega)
      have HRES := Lib.hid (fun (v : World) (hv : Below wr.heap.size wr v) => rasset_any aA aI cA cI I.length A (gi L k).1 (fnA A (gi L k).1) v hnA (HA.out.below (hbw.trans (hv.mono hbw.size))) (fidx_first _ _ _))
      rw [oa_is, show (fnA A (gi L k).1).isSome = true by rw [hfj]; rfl] at HRES
      clear hfj hj hgj
      have hbs : lb < wr.heap.size := World.block_lt_of_cell? _ _ q0
      have x0 : wr.cell? ⟨w.heap.size, 0, none⟩ = some (.slice aA A.length cA) := cell_of HX.out 0 _ rfl
      have x1 : wr.cell? ⟨w.heap.size, 1, none⟩ = some (.slice aI I.length cI) := cell_of HX.out 1 _ rfl
      have hxl := blk_lt HX.out
      have hvr := val_range (P := P.take k) (fun y hy => HIN.out y (List.mem_of_mem_take hy)) (m := M0) (fun t => (HM0.out t).1)
      have hkl : (P.take k).length ≤ 32 := by rw [List.length_take]; omega
      have hpr := prod_range hr (show 0 ≤ (gi L k).2 by omega) hu.2
      have HNX := Lib.hid (show mkt (P.take (k + 1)) M0 = mkt (P.take k) M0 + (gi L k).2 * (asF A (gi L k).1).pr by rw [HTk.out, gl_fst])
      generalize asF A (gi L k).1 = x at *
      generalize gi L k = h at *
      generalize mkt (P.take k) M0 = S at *
      obtain ⟨h1, u⟩ := h
      simp only at *
      have HW1 := Lib.hid (show IntKind.i64.wrap (u * x.pr) = u * x.pr by rw [IntKind.wrap_i64]; omega)
      have HW2 := Lib.hid (show IntKind.i64.wrap (S + u * x.pr) = S + u * x.pr by rw [IntKind.wrap_i64]; omega)
      clear hvr hpr hkl hr hu
      go_wp2_with fail
      go_upto_region 7 with fail
      go_cut [8, 9] from 20 to 29 (fun p q wn => ∃ B : Nat, p = .pointer (some ⟨B, 0, none⟩) ∧ q = .bool true ∧ Hid (wn.heap[B]? = some (.cells #[.string x.nm, .string x.iss, .int .i64 x.pr, .int .i64 x.hc, .int .i64 x.mo, .bool x.el] 48 (0, 0)) ∧ Below wr.heap.size wr wn ∧ wr.heap.size ≤ B))
      case first =>
        have n1 : wr.heap.size ≠ w.heap.size := by omega
        have n2 : wr.heap.size ≠ lb := by omega
        go_region_held3 (fun w' => w'.cell? ⟨w.heap.size, 0, none⟩ = some (.slice aA A.length cA) ∧ w'.cell? ⟨w.heap.size, 1, none⟩ = some (.slice aI I.length cI) ∧ w'.cell? ⟨lb, lo + k * 2, none⟩ = some (.string h1))
          (first | (go_split_ands; refine ⟨?_, ?_, ?_⟩ <;> go_keep; done) | (go_split_ands; refine ⟨?_, ?_, ?_⟩ <;> refine keep ?_ hb3 <;> go_keep; done))
          (first
            | (go_at_call 36; refine (HRES.out wr.drew (Below.drew (Below.refl _ _))).mono ?_; rintro e w3 ⟨rfl, hb3⟩; have e0 : wr.heap.size ≤ w3.heap.size := hb3.size; have e1 : w3.heap.size ≠ w.heap.size := (by omega); have e2 : w3.heap.size ≠ lb := (by omega); have y0 : w3.cell? ⟨w.heap.size, 0, none⟩ = some (.slice aA A.length cA) := keep (w := wr.drew) x0 hb3; have y1 : w3.cell? ⟨w.heap.size, 1, none⟩ = some (.slice aI I.length cI) := keep (w := wr.drew) x1 hb3; have y2 : w3.cell? ⟨lb, lo + k * 2, none⟩ = some (.string h1) := keep (w := wr.drew) q0 hb3; have HFN := Lib.hid (lk_new wr w3 hb3 #[.string x.nm, .string x.iss, .int .i64 x.pr, .int .i64 x.hc, .int .i64 x.mo, .bool x.el] 48))
            | (go_at_call 36; refine (HRES.out (wr.drew.alloc (.cells #[.string ⟨#[]⟩, .string ⟨#[]⟩, .int .i64 0, .int .i64 0, .int .i64 0, .bool false] 48)) ((Below.drew (Below.refl _ _)).alloc (Nat.le_refl _) _)).mono ?_; rintro e w3 ⟨rfl, hb3⟩; have zz := blk_keep (blk_new wr.drew (.cells #[.string ⟨#[]⟩, .string ⟨#[]⟩, .int .i64 0, .int .i64 0, .int .i64 0, .bool false] 48)) hb3; have z0 : w3.cell? ⟨wr.heap.size, 0, none⟩ = some (.string ⟨#[]⟩) := cell_of zz 0 _ rfl; have f0 : w3.frozen? ⟨wr.heap.size, 0, none⟩ = false := frozen_of zz 0; have z1 : w3.cell? ⟨wr.heap.size, 1, none⟩ = some (.string ⟨#[]⟩) := cell_of zz 1 _ rfl; have f1 : w3.frozen? ⟨wr.heap.size, 1, none⟩ = false := frozen_of zz 1; have z2 : w3.cell? ⟨wr.heap.size, 2, none⟩ = some (.int .i64 0) := cell_of zz 2 _ rfl; have f2 : w3.frozen? ⟨wr.heap.size, 2, none⟩ = false := frozen_of zz 2; have z3 : w3.cell? ⟨wr.heap.size, 3, none⟩ = some (.int .i64 0) := cell_of zz 3 _ rfl; have f3 : w3.frozen? ⟨wr.heap.size, 3, none⟩ = false := frozen_of zz 3; have z4 : w3.cell? ⟨wr.heap.size, 4, none⟩ = some (.int .i64 0) := cell_of zz 4 _ rfl; have f4 : w3.frozen? ⟨wr.heap.size, 4, none⟩ = false := frozen_of zz 4; have z5 : w3.cell? ⟨wr.heap.size, 5, none⟩ = some (.bool false) := cell_of zz 5 _ rfl; have f5 : w3.frozen? ⟨wr.heap.size, 5, none⟩ = false := frozen_of zz 5; have HFN := Lib.hid (lk_set wr w3 48 hb3 (.string x.nm) (.string x.iss) (.int .i64 x.pr) (.int .i64 x.hc) (.int .i64 x.mo) (.bool x.el))))
        all_goals
          go_wp2
          go_meet
          case rel => exact ⟨_, rfl, rfl, Lib.hid HFN.out⟩
      case rest =>
        obtain ⟨BX, rfl, rfl, HBX⟩ := hcut
        have c4 := Lib.hid (hbw.trans (HBX.out.2.1.mono hbw.size))
        have HX4 := Lib.hid (blk_keep HX.out HBX.out.2.1)
        have q4 := keep q1 HBX.out.2.1
        have b2 : wc.cell? ⟨BX, 2, none⟩ = some (.int .i64 x.pr) := cell_of HBX.out.1 2 _ rfl
        clear HRES HX hbw x0 x1 q0 q1 HBX hxl hbs
        have w1 := HW1.out
        have w2 := HW2.out
        go_wp2_with fail
        go_big_quiet (fail)
        go_wp2
        go_roundw
        case rel => exact ⟨k + 1, by omega, by go_num, by rw [HNX.out], below_drewN c4.out _, Lib.hid HX4.out⟩
        case measure => simp [intOf]; omega
    · obtain rfl : k = L.length := by omega
      rw [List.take_of_length_le (by rw [HLEN.out]; exact Nat.le_refl _)]
      go_wp2
      go_ret2
      exact ⟨rfl, hbw⟩

end Go.Proofs.Ytbfgnkakcnhojaa.Co
