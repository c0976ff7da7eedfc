/-
  The walk of the law CollateralRelease.
-/
import Derived.Test.YtbfgnkakcnhojaaCoO
import Derived.Test.YtbfgnkakcnhojaaCoQ
namespace Go.Proofs.Ytbfgnkakcnhojaa.Co
open Go.RowKit Go.Proofs.Ytbfgnkakcnhojaa Go.Proofs.Ytbfgnkakcnhojaa.Ls Go.Proofs.Ytbfgnkakcnhojaa.Kb
open Go.Proofs.Ytbfgnkakcnhojaa.Nm hiding ret_bool ret_int

theorem relR_cases {A : List As} {I L : List (ByteArray × Int)} {t : ByteArray} {need r e : Int} (h : RelR A I L t need r e) :
    (r = 0 ∧ (e = 2 ∨ e = 6 ∨ e = 8 ∨ e = 50)) ∨ (e = 0 ∧ fitB A I L = true ∧ ∃ i, fnL L t = some i ∧ i < L.length ∧ (gi L i).1 = t ∧ 0 ≤ r ∧ r ≤ (gi L i).2 ∧ need ≤ val (mkP A L) (moF I) ∧ need ≤ val (mkP A (wo L i r)) (moF I) ∧ val (mkP A (wo L i r)) (moF I) ≤ val (mkP A L) (moF I) ∧ (r < (gi L i).2 → val (mkP A (wo L i (r + 1))) (moF I) < need)) := by
  cases h with
  | bad h h1 h2 => exact .inl ⟨h1, by omega⟩
  | none h h0 h1 h2 => exact .inl ⟨h1, by omega⟩
  | arg h i h0 h3 h1 h2 => exact .inl ⟨h1, by omega⟩
  | cash h i h0 h3 h4 h1 h2 => exact .inl ⟨h1, by omega⟩
  | ok h i h0 h3 h4 h1 h2 =>
    obtain ⟨hi, hn⟩ := fnL_at h0
    obtain ⟨a, b, c, d, f⟩ := rel_facts h hi h4 h1
    exact .inr ⟨h2, h, i, h0, hi, hn, a, b, h4, c, d, f⟩
theorem great_no {a b c : Nat} (h : greatB a b c = false) : a ≤ 40 ∧ b ≤ 40 ∧ c ≤ 40 := by
  unfold greatB at h
  simp only [Bool.or_eq_false_iff, decide_eq_false_iff_not] at h
  omega
set_option maxRecDepth 100000 in
set_option maxHeartbeats 4000000 in
theorem release_walk {W : World} (aA aI : Option Addr) (cA cI : Nat) (A : List As) (I : List (ByteArray × Int)) (hZA : SzA A) (hZI : SzL I) (hA : AtL W 6 asc aA A) (hI : AtL W 2 isc aI I)
    (aL : Option Addr) (cL : Nat) (L : List (ByteArray × Int)) (hZL : SzL L) (hL : AtL W 2 isc aL L) (t : ByteArray) (ht : t.size ≤ maxLen) (need : Int) (_hn : (Lit.int .i64 need).wf = true) :
    Calls Try.prog 6 #[.agg #[.slice aA A.length cA, .slice aI I.length cI], .slice aL L.length cL, .string t, .int .i64 need] W fun e W' => e = .returned (.bool true) ∧ Below W.heap.size W W' := by
  have hbo : Below W.heap.size W (W.alloc (.cells #[.slice aA A.length cA, .slice aI I.length cI] 25)) := (Below.refl _ _).alloc (Nat.le_refl _) _
  have HX0 := Lib.hid (blk_new W (.cells #[.slice aA A.length cA, .slice aI I.length cI] 25))
  rcases hb (greatB A.length I.length L.length) with hg | hg
  · have HG := Lib.hid hg
    clear hg
    go_enter Try.func6, Try.ntmps6
    go_wp2_with fail
    generalize W.alloc _ = wo at hbo HX0 ⊢
    refine (alive_any wo).mono ?_
    rintro e w1 ⟨rfl, hb1⟩
    have c1 := bt hbo hb1 (Nat.le_refl _)
    have HX1 := Lib.hid (blk_keep HX0.out hb1)
    have hx0 : w1.cell? ⟨W.heap.size, 0, none⟩ = some (.slice aA A.length cA) := cell_of HX1.out 0 _ rfl
    have hx1 : w1.cell? ⟨W.heap.size, 1, none⟩ = some (.slice aI I.length cI) := cell_of HX1.out 1 _ rfl
    clear HX0 hb1 hbo
    go_wp2_with fail
    refine (great_any aA aI aL A.length I.length L.length cA cI cL w1).mono ?_
    rintro e w2 ⟨rfl, hb2⟩
    have c2 := bt c1 hb2 (Nat.le_refl _)
    have HX2 := Lib.hid (blk_keep HX1.out hb2)
    rw [HG.out]
    clear HX1 hx0 hx1 c1 hb2
    go_wp2
    go_ret
    exact ⟨rfl, c2⟩
  · obtain ⟨hlA, hlI, hlL⟩ := great_no hg
    have HG := Lib.hid hg
    clear hg
    have HA := Lib.hid hA
    have HI := Lib.hid hI
    have HL := Lib.hid hL
    clear hA hI hL
    obtain ⟨r, e0, hR⟩ := relR_exists A I L t need
    have HTW := Lib.hid (fun (v : World) (hv : Below W.heap.size W v) => twin_any aL cL L v (by omega) (HL.out.below hv))
    have HRE := Lib.hid (fun (v : World) (a' : Option Addr) (c' : Nat) (hv : Below W.heap.size W v) (hl : AtL v 2 isc a' L) => release_any aA aI a' cA cI c' A I L t need r e0 v (by omega) (by omega) (by omega) hZA hZI hZL (HA.out.below hv) (HI.out.below hv) hl hR)
    rcases relR_cases hR with ⟨rfl, he0⟩ | ⟨rfl, hf, J, hfn, hJ, hJt, r0, r1, v0, v1, v2, v3⟩
    · clear hR
      have hne : (e0 != 0) = true := by rw [bne_iff_ne]; omega
      clear he0
      go_enter Try.func6, Try.ntmps6
      go_wp2_with fail
      generalize W.alloc _ = wo at hbo HX0 ⊢
      refine (alive_any wo).mono ?_
      rintro e w1 ⟨rfl, hb1⟩
      have c1 := bt hbo hb1 (Nat.le_refl _)
      have HX1 := Lib.hid (blk_keep HX0.out hb1)
      have hx0 : w1.cell? ⟨W.heap.size, 0, none⟩ = some (.slice aA A.length cA) := cell_of HX1.out 0 _ rfl
      have hx1 : w1.cell? ⟨W.heap.size, 1, none⟩ = some (.slice aI I.length cI) := cell_of HX1.out 1 _ rfl
      clear HX0 hb1 hbo
      go_wp2_with fail
      refine (great_any aA aI aL A.length I.length L.length cA cI cL w1).mono ?_
      rintro e w2 ⟨rfl, hb2⟩
      have c2 := bt c1 hb2 (Nat.le_refl _)
      have HX2 := Lib.hid (blk_keep HX1.out hb2)
      rw [HG.out]
      clear HX1 hx0 hx1 c1 hb2
      have HB := Lib.hid (show ∀ wx, Below w2.heap.size w2 wx → wx.cell? ⟨W.heap.size, 0, none⟩ = some (.slice aA A.length cA) ∧ wx.cell? ⟨W.heap.size, 1, none⟩ = some (.slice aI I.length cI) from
        fun wx hx => ⟨cell_of (blk_keep HX2.out hx) 0 _ rfl, cell_of (blk_keep HX2.out hx) 1 _ rfl⟩)
      obtain ⟨x0, x1⟩ := HB.out w2 (Below.refl _ _)
      have hxl := blk_lt HX2.out
      have k0 : Below w2.heap.size w2 w2 := Below.refl _ _
      have kd := k0.drew
      have hws := c2.size
      go_wp2_with fail
      go_region_held3 (fun w' => w'.cell? ⟨W.heap.size, 0, none⟩ = some (.slice aA A.length cA) ∧ w'.cell? ⟨W.heap.size, 1, none⟩ = some (.slice aI I.length cI))
        (first | with_reducible exact HB.out _ (by assumption) | with_reducible exact HB.out _ (Below.drew (by assumption)) | go_keep)
        (first
          | (go_at_call 13; refine (HTW.out w2.drew c2.drew).mono ?_; rintro e w6 ⟨a6, c6, rfl, hO6, hb6⟩; have k6 : Below w2.heap.size w2 w6 := bt kd hb6 (Nat.le_refl _); have A6 := Lib.hid (hO6.sl isc_len).1; clear hO6)
          | (go_at_call 20; refine (HRE.out w6 a6 c6 (c2.trans (k6.mono hws)) A6.out).mono ?_; rintro e w7 ⟨rfl, hb7⟩; have k7 : Below w2.heap.size w2 w7 := bt k6 hb7 (Nat.le_refl _)))
      all_goals
        have cN := c2.trans (k7.mono hws)
        go_wp2
        go_ret
        exact ⟨rfl, by first | exact cN | exact cN.drew⟩
    · have hB := (fit_parts hf).2.1
      have hu := holB_at hB J hJ
      have HSI := Lib.hid (holB_sorted hB)
      have HV0 := Lib.hid (fun (v : World) (hv : Below W.heap.size W v) => pvalue_yes aA aI aL cA cI cL A I L v (by omega) (by omega) (by omega) hZA hZI hZL (HA.out.below hv) (HI.out.below hv) (HL.out.below hv) hf)
      have HTK := Lib.hid (fun (n : Int) (n1 : 1 ≤ n) (n2 : n ≤ (gi L J).2) (v : World) (hv : Below W.heap.size W v) => (show Calls Try.prog 29 #[.slice aL L.length cL, .string t, .int .i64 n] v fun e w' => ∃ a' c', e = .returned (.tuple #[.slice a' (wo L J n).length c', .int .i64 0]) ∧ AtL w' 2 isc a' (wo L J n) ∧ Below v.heap.size v w' from by
        have h := take_any aL cL L t n v (by omega) hZL ht (HL.out.below hv)
        rw [(take_ok hB hfn n n1 n2).1, (take_ok hB hfn n n1 n2).2] at h
        exact h.mono fun e w' ⟨a', c', h1, h2, h3⟩ => ⟨a', c', h1, (h2.sl isc_len).1, h3⟩))
      have HV1 := Lib.hid (fun (n : Int) (n1 : 0 ≤ n) (n2 : n ≤ (gi L J).2) (v : World) (a' : Option Addr) (c' : Nat) (hv : Below W.heap.size W v) (hl : AtL v 2 isc a' (wo L J n)) => pvalue_yes aA aI a' cA cI c' A I (wo L J n) v (by omega) (by omega) (by have := wo_len L J hJ n; omega) hZA hZI (wo_sz hZL J hJ n) (HA.out.below hv) (HI.out.below hv) hl (fit_wo hf J hJ n n1 n2))
      have HCU := Lib.hid (fun (v : World) (hv : Below W.heap.size W v) (k : Nat) (hk : k < L.length) => at_is (HL.out.below hv) k hk)
      have HNE := Lib.hid (show ∀ k, k < L.length → k ≠ J → (gi L k).1 ≠ t from fun k hk hne e => hne (HSI.out.inj k J hk hJ (e.trans hJt.symm)))
      have HJT := Lib.hid hJt
      generalize val (mkP A L) (moF I) = V0 at *
      obtain ⟨u, hU⟩ : ∃ u, u = (gi L J).2 := ⟨_, rfl⟩
      rw [← hU] at r1 v3 HTK HV1 hu
      have HU := Lib.hid hU
      clear hR hB hf hfn hJt HSI hU hZA hZI hZL
      obtain ⟨hu0, hu1, hu2⟩ := hu
      clear hu0
      go_enter Try.func6, Try.ntmps6
      go_wp2_with fail
      generalize W.alloc _ = wo at hbo HX0 ⊢
      refine (alive_any wo).mono ?_
      rintro e w1 ⟨rfl, hb1⟩
      have c1 := bt hbo hb1 (Nat.le_refl _)
      have HX1 := Lib.hid (blk_keep HX0.out hb1)
      have hx0 : w1.cell? ⟨W.heap.size, 0, none⟩ = some (.slice aA A.length cA) := cell_of HX1.out 0 _ rfl
      have hx1 : w1.cell? ⟨W.heap.size, 1, none⟩ = some (.slice aI I.length cI) := cell_of HX1.out 1 _ rfl
      clear HX0 hb1 hbo
      go_wp2_with fail
      refine (great_any aA aI aL A.length I.length L.length cA cI cL w1).mono ?_
      rintro e w2 ⟨rfl, hb2⟩
      have c2 := bt c1 hb2 (Nat.le_refl _)
      have HX2 := Lib.hid (blk_keep HX1.out hb2)
      rw [HG.out]
      clear HX1 hx0 hx1 c1 hb2
      have HB := Lib.hid (show ∀ wx, Below w2.heap.size w2 wx → wx.cell? ⟨W.heap.size, 0, none⟩ = some (.slice aA A.length cA) ∧ wx.cell? ⟨W.heap.size, 1, none⟩ = some (.slice aI I.length cI) from
        fun wx hx => ⟨cell_of (blk_keep HX2.out hx) 0 _ rfl, cell_of (blk_keep HX2.out hx) 1 _ rfl⟩)
      obtain ⟨x0, x1⟩ := HB.out w2 (Below.refl _ _)
      have hxl := blk_lt HX2.out
      have k0 : Below w2.heap.size w2 w2 := Below.refl _ _
      have kd := k0.drew
      have hws := c2.size
      go_wp2_with fail
      go_region_held3 (fun w' => w'.cell? ⟨W.heap.size, 0, none⟩ = some (.slice aA A.length cA) ∧ w'.cell? ⟨W.heap.size, 1, none⟩ = some (.slice aI I.length cI))
        (first | with_reducible exact HB.out _ (by assumption) | with_reducible exact HB.out _ (Below.drew (by assumption)) | go_keep)
        (first
          | (go_at_call 13; refine (HTW.out w2.drew c2.drew).mono ?_; rintro e w6 ⟨a6, c6, rfl, hO6, hb6⟩; have k6 : Below w2.heap.size w2 w6 := bt kd hb6 (Nat.le_refl _); have A6 := Lib.hid (hO6.sl isc_len).1; clear hO6)
          | (go_at_call 20; refine (HRE.out w6 a6 c6 (c2.trans (k6.mono hws)) A6.out).mono ?_; rintro e w7 ⟨rfl, hb7⟩; have k7 : Below w2.heap.size w2 w7 := bt k6 hb7 (Nat.le_refl _)))
      all_goals
        have cN := c2.trans (k7.mono hws)
        have HXN := Lib.hid (blk_keep HX2.out k7)
        clear HTW HRE HX2 HB x0 x1 k0 kd hws k7 hxl HG c2
        clear hb6 hb7 k6 A6
        go_wp2_with fail
        go_loop [12, 13] (fun h i => ∃ k : Nat, k ≤ L.length ∧ i = .int .i64 k ∧ h = .int .i64 (if J < k then u else 0)) (fun _ i => L.length - (intOf i).toNat)
        case atStart => exact ⟨0, by omega, rfl, by rw [if_neg (by omega)]⟩
        case round =>
          obtain ⟨k, hk, rfl, rfl⟩ := hrel
          rcases Nat.lt_or_ge k L.length with hlt | hge
          · have hki : (k : Int) < L.length := by omega
            have hk0 : (0 : Int) ≤ (k : Int) := by omega
            obtain ⟨lb, lo, rfl, q0, q1⟩ := HCU.out w7 cN k hlt
            change _ = some (Value.string (gi L k).1) at q0
            change _ = some (Value.int .i64 (gi L k).2) at q1
            by_cases hkJ : k = J
            · have q2 : w7.cell? ⟨lb, lo + k * 2 + 1, none⟩ = some (.int .i64 u) := by rw [q1, hkJ, HU.out]
              clear q1
              rw [← hkJ] at HJT
              have heq := eq_yes HJT.out
              have hjk : J < k + 1 := by omega
              clear hkJ
              go_wp2
              go_round
              case rel => exact ⟨k + 1, by omega, by go_num, by rw [if_pos hjk]⟩
              case measure => simp [intOf]; omega
            · have heq := eq_no (HNE.out k hlt hkJ)
              have HIF := Lib.hid (show (if J < k + 1 then u else 0) = (if J < k then u else 0) by
                by_cases h : J < k
                · rw [if_pos h, if_pos (by omega)]
                · rw [if_neg h, if_neg (by omega)])
              clear hkJ
              generalize (if J < k then u else 0) = hv at *
              go_wp2
              go_round
              case rel => exact ⟨k + 1, by omega, by go_num, by rw [HIF.out]⟩
              case measure => simp [intOf]; omega
          · obtain rfl : k = L.length := by omega
            rw [if_pos hJ]
            have hr0n : ¬ r < 0 := by omega
            have hrun : ¬ u < r := by omega
            clear hk hge HCU HNE HJT HU
            have y0 : w7.cell? ⟨W.heap.size, 0, none⟩ = some (.slice aA A.length cA) := cell_of HXN.out 0 _ rfl
            have y1 : w7.cell? ⟨W.heap.size, 1, none⟩ = some (.slice aI I.length cI) := cell_of HXN.out 1 _ rfl
            go_wp2_with fail
            refine (HV0.out w7 cN).mono ?_
            rintro e w8 ⟨rfl, hbX⟩
            have c8 := bt cN hbX (Nat.le_refl _)
            have HX8 := Lib.hid (blk_keep HXN.out hbX)
            clear hbX y0 y1 HXN
            by_cases hr : 0 < r
            · have y0 : w8.cell? ⟨W.heap.size, 0, none⟩ = some (.slice aA A.length cA) := cell_of HX8.out 0 _ rfl
              have y1 : w8.cell? ⟨W.heap.size, 1, none⟩ = some (.slice aI I.length cI) := cell_of HX8.out 1 _ rfl
              go_wp2_with fail
              refine (HTK.out r (by omega) r1 w8 c8).mono ?_
              rintro e w9 ⟨a9, c9', rfl, hA9, hbX⟩
              have c9 := bt c8 hbX (Nat.le_refl _)
              have HX9 := Lib.hid (blk_keep HX8.out hbX)
              clear hbX y0 y1 HX8
              have y0 : w9.cell? ⟨W.heap.size, 0, none⟩ = some (.slice aA A.length cA) := cell_of HX9.out 0 _ rfl
              have y1 : w9.cell? ⟨W.heap.size, 1, none⟩ = some (.slice aI I.length cI) := cell_of HX9.out 1 _ rfl
              go_wp2_with fail
              refine (HV1.out r r0 r1 w9 a9 c9' c9 hA9).mono ?_
              rintro e w10 ⟨rfl, hbX⟩
              have c10 := bt c9 hbX (Nat.le_refl _)
              have HX10 := Lib.hid (blk_keep HX9.out hbX)
              clear hbX y0 y1 HX9
              generalize val (mkP A (Co.wo L J r)) (moF I) = V1 at *
              have hv1 : ¬ V0 < V1 := by omega
              have hv2 : ¬ V1 < need := by omega
              by_cases hq : r = u
              · have hqb : (r == u) = true := by rw [beq_iff_eq]; exact hq
                clear hq
                go_wp2
                go_ret
                exact ⟨rfl, c10⟩
              · have hqb : (r == u) = false := by rw [beq_eq_false_iff_ne]; exact hq
                have hrlt : r < u := by omega
                clear hq
                have y0 : w10.cell? ⟨W.heap.size, 0, none⟩ = some (.slice aA A.length cA) := cell_of HX10.out 0 _ rfl
                have y1 : w10.cell? ⟨W.heap.size, 1, none⟩ = some (.slice aI I.length cI) := cell_of HX10.out 1 _ rfl
                have hw1 : IntKind.i64.wrap (r + 1) = r + 1 := by rw [IntKind.wrap_i64]; omega
                go_wp2_with fail
                refine (HTK.out (r + 1) (by omega) (by omega) w10 c10).mono ?_
                rintro e w11 ⟨a11, c11', rfl, hA11, hbX⟩
                have c11 := bt c10 hbX (Nat.le_refl _)
                have HX11 := Lib.hid (blk_keep HX10.out hbX)
                clear hbX y0 y1 HX10
                clear hw1
                have y0 : w11.cell? ⟨W.heap.size, 0, none⟩ = some (.slice aA A.length cA) := cell_of HX11.out 0 _ rfl
                have y1 : w11.cell? ⟨W.heap.size, 1, none⟩ = some (.slice aI I.length cI) := cell_of HX11.out 1 _ rfl
                go_wp2_with fail
                refine (HV1.out (r + 1) (by omega) (by omega) w11 a11 c11' c11 hA11).mono ?_
                rintro e w12 ⟨rfl, hbX⟩
                have c12 := bt c11 hbX (Nat.le_refl _)
                have HX12 := Lib.hid (blk_keep HX11.out hbX)
                clear hbX y0 y1 HX11
                have hlt2 : val (mkP A (Co.wo L J (r + 1))) (moF I) < need := v3 (by omega)
                generalize val (mkP A (Co.wo L J (r + 1))) (moF I) = V2 at *
                go_wp2
                go_ret
                exact ⟨rfl, c12⟩
            · obtain rfl : r = 0 := by omega
              have hv2 : ¬ V0 < need := by omega
              have hqb : ((0 : Int) == u) = false := by rw [beq_eq_false_iff_ne]; omega
              have y0 : w8.cell? ⟨W.heap.size, 0, none⟩ = some (.slice aA A.length cA) := cell_of HX8.out 0 _ rfl
              have y1 : w8.cell? ⟨W.heap.size, 1, none⟩ = some (.slice aI I.length cI) := cell_of HX8.out 1 _ rfl
              go_wp2_with fail
              refine (HTK.out 1 (by omega) (by omega) w8 c8).mono ?_
              rintro e w11 ⟨a11, c11', rfl, hA11, hbX⟩
              have c11 := bt c8 hbX (Nat.le_refl _)
              have HX11 := Lib.hid (blk_keep HX8.out hbX)
              clear hbX y0 y1 HX8
              have y0 : w11.cell? ⟨W.heap.size, 0, none⟩ = some (.slice aA A.length cA) := cell_of HX11.out 0 _ rfl
              have y1 : w11.cell? ⟨W.heap.size, 1, none⟩ = some (.slice aI I.length cI) := cell_of HX11.out 1 _ rfl
              go_wp2_with fail
              refine (HV1.out 1 (by omega) (by omega) w11 a11 c11' c11 hA11).mono ?_
              rintro e w12 ⟨rfl, hbX⟩
              have c12 := bt c11 hbX (Nat.le_refl _)
              have HX12 := Lib.hid (blk_keep HX11.out hbX)
              clear hbX y0 y1 HX11
              have hlt2 : val (mkP A (Co.wo L J 1)) (moF I) < need := v3 (by omega)
              generalize val (mkP A (Co.wo L J 1)) (moF I) = V2 at *
              go_wp2
              go_ret
              exact ⟨rfl, c12⟩
end Go.Proofs.Ytbfgnkakcnhojaa.Co

