/-
  The walk of the law CollateralMore.
-/
import Derived.Test.YtbfgnkakcnhojaaCoS
import Derived.Test.YtbfgnkakcnhojaaCoU
namespace Go.Proofs.Ytbfgnkakcnhojaa.Co
open Go.RowKit Go.Proofs.Ytbfgnkakcnhojaa Go.Proofs.Ytbfgnkakcnhojaa.Ls Go.Proofs.Ytbfgnkakcnhojaa.Kb
open Go.Proofs.Ytbfgnkakcnhojaa.Nm hiding ret_bool ret_int

set_option maxRecDepth 100000 in
set_option maxHeartbeats 4000000 in
theorem more_walk {W : World} (aA aI : Option Addr) (cA cI : Nat) (A : List As) (I : List (ByteArray × Int)) (hZA : SzA A) (hZI : SzL I) (hA : AtL W 6 asc aA A) (hI : AtL W 2 isc aI I)
    (aL : Option Addr) (cL : Nat) (L : List (ByteArray × Int)) (hZL : SzL L) (hL : AtL W 2 isc aL L) (t : ByteArray) (ht : t.size ≤ maxLen) (n : Int) (_hn : (Lit.int .i64 n).wf = true) :
    Calls Try.prog 7 #[.agg #[.slice aA A.length cA, .slice aI I.length cI], .slice aL L.length cL, .string t, .int .i64 n] W fun e W' => e = .returned (.bool true) ∧ Below W.heap.size W W' := by
  have hbo : Below W.heap.size W (W.alloc (.cells #[.slice aA A.length cA, .slice aI I.length cI] 25)) := (Below.refl _ _).alloc (Nat.le_refl _) _
  have HX0 := Lib.hid (blk_new W (.cells #[.slice aA A.length cA, .slice aI I.length cI] 25))
  rcases hb (greatB A.length I.length L.length) with hg | hg
  · have HG := Lib.hid hg
    clear hg
    go_enter Try.func7, Try.ntmps7
    go_wp2_with fail
    generalize W.alloc _ = wo at hbo HX0 ⊢
    refine (alive_any wo).mono ?_
    rintro e w1 ⟨rfl, hb1⟩
    have c1 := bt hbo hb1 (Nat.le_refl _)
    have HX1 := Lib.hid (blk_keep HX0.out hb1)
    have hx0 : w1.cell? ⟨W.heap.size, 0, none⟩ = some (.slice aA A.length cA) := cell_of HX1.out 0 _ rfl
    have hx1 : w1.cell? ⟨W.heap.size, 1, none⟩ = some (.slice aI I.length cI) := cell_of HX1.out 1 _ rfl
    clear HX0 hb1 hbo
    go_wp2_with fail
    refine (great_any aA aI aL A.length I.length L.length cA cI cL w1).mono ?_
    rintro e w2 ⟨rfl, hb2⟩
    have c2 := bt c1 hb2 (Nat.le_refl _)
    have HX2 := Lib.hid (blk_keep HX1.out hb2)
    rw [HG.out]
    clear HX1 hx0 hx1 c1 hb2
    go_wp2
    go_ret
    exact ⟨rfl, c2⟩
  · obtain ⟨hlA, hlI, hlL⟩ := great_no hg
    have HG := Lib.hid hg
    clear hg
    have HA := Lib.hid hA
    have HI := Lib.hid hI
    have HL := Lib.hid hL
    clear hA hI hL
    have HCS : Hid ((putE L t n != 0) = true ∨ (putE L t n = 0 ∧ ((eV (fitB A I L) = 8) ∨ (eV (fitB A I L) = 0 ∧ ((fnA A t).isSome = false ∨ ((fnA A t).isSome = true ∧ eV (fitB A I (putV L t n)) = 0 ∧ vF A I L ≤ vF A I (putV L t n) ∧ vF A I (putV L t n) - vF A I L ≤ n * (oa A (fnA A t)).pr ∧
      mF A I (putV L t n) - mF A I L = n * (oa A (fnA A t)).pr ∧ 0 ≤ n * (oa A (fnA A t)).pr ∧ n * (oa A (fnA A t)).pr ≤ 35184372088832)))))) := by
      unfold Hid
      by_cases h : putE L t n = 0
      · refine .inr ⟨h, ?_⟩
        rcases eV_range (fitB A I L) with ⟨h1, h2⟩ | ⟨h1, h2⟩
        · refine .inr ⟨h2, ?_⟩
          rcases hb (fnA A t).isSome with h3 | h3
          · obtain ⟨a, b, c, d, f, g⟩ := more_facts h h1 h3
            refine .inr ⟨h3, by rw [a]; rfl, ?_⟩
            unfold vF mF
            rw [if_pos h1, if_pos a, if_pos h1, if_pos a]
            exact ⟨b, c, d, f, g⟩
          · exact .inl h3
        · exact .inl h2
      · exact .inl (by rw [bne_iff_ne]; exact h)
    have HML := Lib.hid (putV_len L t n)
    have HMZ := Lib.hid (putV_sz hZL ht n)
    have HTW := Lib.hid (fun (v : World) (hv : Below W.heap.size W v) => twin_any aL cL L v (by omega) (HL.out.below hv))
    have HPU := Lib.hid (fun (v : World) (a' : Option Addr) (c' : Nat) (hl : AtL v 2 isc a' L) => put_any a' c' L t n v (by omega) hZL ht hl)
    have HV0 := Lib.hid (fun (v : World) (hv : Below W.heap.size W v) => value_q aA aI aL cA cI cL A I L v (by omega) (by omega) (by omega) hZA hZI hZL (HA.out.below hv) (HI.out.below hv) (HL.out.below hv))
    have HM0 := Lib.hid (fun (v : World) (hv : Below W.heap.size W v) => market_q aA aI aL cA cI cL A I L v (by omega) (by omega) (by omega) hZA hZI hZL (HA.out.below hv) (HI.out.below hv) (HL.out.below hv))
    have HV1 := Lib.hid (fun (v : World) (a' : Option Addr) (c' : Nat) (hv : Below W.heap.size W v) (hl : AtL v 2 isc a' (putV L t n)) => value_q aA aI a' cA cI c' A I (putV L t n) v (by omega) (by omega) (by have := HML.out; omega) hZA hZI HMZ.out (HA.out.below hv) (HI.out.below hv) hl)
    have HM1 := Lib.hid (fun (v : World) (a' : Option Addr) (c' : Nat) (hv : Below W.heap.size W v) (hl : AtL v 2 isc a' (putV L t n)) => market_q aA aI a' cA cI c' A I (putV L t n) v (by omega) (by omega) (by have := HML.out; omega) hZA hZI HMZ.out (HA.out.below hv) (HI.out.below hv) hl)
    have HFD := Lib.hid (fun (v : World) (hv : Below W.heap.size W v) => lfound_any aA aI cA cI I.length A t (fnA A t) v (by omega) (HA.out.below hv) (fidx_first _ _ _))
    generalize vF A I (putV L t n) = V1 at *
    generalize mF A I (putV L t n) = M1 at *
    generalize eV (fitB A I (putV L t n)) = E1 at *
    generalize vF A I L = V0 at *
    generalize mF A I L = M0 at *
    generalize eV (fitB A I L) = E0 at *
    generalize putE L t n = PE at *
    generalize putV L t n = M at *
    generalize oa A (fnA A t) = X at *
    generalize (fnA A t).isSome = is at *
    clear hZA hZI hZL HML HMZ HA HI HL
    go_enter Try.func7, Try.ntmps7
    go_wp2_with fail
    generalize W.alloc _ = wo at hbo HX0 ⊢
    refine (alive_any wo).mono ?_
    rintro e w1 ⟨rfl, hb1⟩
    have c1 := bt hbo hb1 (Nat.le_refl _)
    have HX1 := Lib.hid (blk_keep HX0.out hb1)
    have hx0 : w1.cell? ⟨W.heap.size, 0, none⟩ = some (.slice aA A.length cA) := cell_of HX1.out 0 _ rfl
    have hx1 : w1.cell? ⟨W.heap.size, 1, none⟩ = some (.slice aI I.length cI) := cell_of HX1.out 1 _ rfl
    clear HX0 hb1 hbo
    go_wp2_with fail
    refine (great_any aA aI aL A.length I.length L.length cA cI cL w1).mono ?_
    rintro e w2 ⟨rfl, hb2⟩
    have c2 := bt c1 hb2 (Nat.le_refl _)
    have HX2 := Lib.hid (blk_keep HX1.out hb2)
    rw [HG.out]
    clear HX1 hx0 hx1 c1 hb2
    go_wp2_with fail
    refine (HTW.out w2 c2).mono ?_
    rintro e w3 ⟨a3, c3', rfl, hO3, hbX⟩
    have c3 := bt c2 hbX (Nat.le_refl _)
    have HX3 := Lib.hid (blk_keep HX2.out hbX)
    have A3 := Lib.hid (hO3.sl isc_len).1
    clear hO3 HTW
    clear hbX HX2
    go_wp2_with fail
    refine (HPU.out w3 a3 c3' A3.out).mono ?_
    rintro e w4 ⟨a4, c4', rfl, hO4, hbX⟩
    have c4 := bt c3 hbX (Nat.le_refl _)
    have HX4 := Lib.hid (blk_keep HX3.out hbX)
    have A4 := Lib.hid (hO4.sl isc_len).1
    clear hO4 A3 HPU
    clear hbX HX3
    have y0 : w4.cell? ⟨W.heap.size, 0, none⟩ = some (.slice aA A.length cA) := cell_of HX4.out 0 _ rfl
    have y1 : w4.cell? ⟨W.heap.size, 1, none⟩ = some (.slice aI I.length cI) := cell_of HX4.out 1 _ rfl
    go_wp2_with fail
    refine (HV0.out w4 c4).mono ?_
    rintro e w5 ⟨rfl, hbX⟩
    have c5 := bt c4 hbX (Nat.le_refl _)
    have HX5 := Lib.hid (blk_keep HX4.out hbX)
    have A5 := Lib.hid (A4.out.below hbX)
    clear A4 HV0
    clear hbX HX4 y0 y1
    have y0 : w5.cell? ⟨W.heap.size, 0, none⟩ = some (.slice aA A.length cA) := cell_of HX5.out 0 _ rfl
    have y1 : w5.cell? ⟨W.heap.size, 1, none⟩ = some (.slice aI I.length cI) := cell_of HX5.out 1 _ rfl
    go_wp2_with fail
    refine (HV1.out w5 a4 c4' c5 A5.out).mono ?_
    rintro e w6 ⟨rfl, hbX⟩
    have c6 := bt c5 hbX (Nat.le_refl _)
    have HX6 := Lib.hid (blk_keep HX5.out hbX)
    have A6 := Lib.hid (A5.out.below hbX)
    clear A5 HV1
    clear hbX HX5 y0 y1
    have y0 : w6.cell? ⟨W.heap.size, 0, none⟩ = some (.slice aA A.length cA) := cell_of HX6.out 0 _ rfl
    have y1 : w6.cell? ⟨W.heap.size, 1, none⟩ = some (.slice aI I.length cI) := cell_of HX6.out 1 _ rfl
    go_wp2_with fail
    refine (HM0.out w6 c6).mono ?_
    rintro e w7 ⟨rfl, hbX⟩
    have c7 := bt c6 hbX (Nat.le_refl _)
    have HX7 := Lib.hid (blk_keep HX6.out hbX)
    have A7 := Lib.hid (A6.out.below hbX)
    clear A6 HM0
    clear hbX HX6 y0 y1
    have y0 : w7.cell? ⟨W.heap.size, 0, none⟩ = some (.slice aA A.length cA) := cell_of HX7.out 0 _ rfl
    have y1 : w7.cell? ⟨W.heap.size, 1, none⟩ = some (.slice aI I.length cI) := cell_of HX7.out 1 _ rfl
    go_wp2_with fail
    refine (HM1.out w7 a4 c4' c7 A7.out).mono ?_
    rintro e w8 ⟨rfl, hbX⟩
    have c8 := bt c7 hbX (Nat.le_refl _)
    have HX8 := Lib.hid (blk_keep HX7.out hbX)
    clear A7 HM1
    clear hbX HX7 y0 y1
    have y0 : w8.cell? ⟨W.heap.size, 0, none⟩ = some (.slice aA A.length cA) := cell_of HX8.out 0 _ rfl
    have y1 : w8.cell? ⟨W.heap.size, 1, none⟩ = some (.slice aI I.length cI) := cell_of HX8.out 1 _ rfl
    go_wp2_with fail
    refine (HFD.out w8 c8).mono ?_
    rintro e w9 ⟨rfl, hbX⟩
    have c9 := bt c8 hbX (Nat.le_refl _)
    have HX9 := Lib.hid (blk_keep HX8.out hbX)
    clear HFD
    clear hbX HX8 y0 y1
    clear HX9 HG c2 c3 c4 c5 c6 c7 c8
    have hbl := blk_new w9 (.cells #[.string X.nm, .string X.iss, .int .i64 X.pr, .int .i64 X.hc, .int .i64 X.mo, .bool X.el] 48)
    have b2 := cell_of hbl 2 _ rfl
    have HB := Lib.hid (show Below W.heap.size W (w9.alloc (.cells #[.string X.nm, .string X.iss, .int .i64 X.pr, .int .i64 X.hc, .int .i64 X.mo, .bool X.el] 48)) from c9.alloc c9.size _)
    clear hbl c9
    rcases HCS.out with hc | ⟨rfl, hc⟩
    · clear HCS
      go_wp2
      go_ret
      exact ⟨rfl, HB.out⟩
    · rcases hc with rfl | ⟨rfl, hc⟩
      · clear HCS
        go_wp2
        go_ret
        exact ⟨rfl, HB.out⟩
      · rcases hc with rfl | ⟨rfl, rfl, h1, h2, h3, h4, h5⟩
        · clear HCS
          go_wp2
          go_ret
          exact ⟨rfl, HB.out⟩
        · clear HCS
          have q1 : IntKind.i64.wrap (M1 - M0) = M1 - M0 := by rw [IntKind.wrap_i64]; omega
          have q2 : IntKind.i64.wrap (V1 - V0) = V1 - V0 := by rw [IntKind.wrap_i64]; omega
          have q3 : IntKind.i64.wrap (n * X.pr) = n * X.pr := by rw [IntKind.wrap_i64]; omega
          have q4 : (M1 - M0 == n * X.pr) = true := by rw [beq_iff_eq]; exact h3
          have q5 : decide (V0 ≤ V1) = true := decide_eq_true h1
          have q6 : decide (V1 - V0 ≤ n * X.pr) = true := decide_eq_true h2
          clear h1 h2 h3 h4 h5
          go_wp2
          go_ret
          exact ⟨rfl, HB.out⟩
end Go.Proofs.Ytbfgnkakcnhojaa.Co

