/-
  Collateral: the walk of the program's Release.
-/
import Derived.Test.YtbfgnkakcnhojaaCoR
import Derived.Test.YtbfgnkakcnhojaaCoC
namespace Go.Proofs.Ytbfgnkakcnhojaa.Co
open Go.RowKit Go.Proofs.Ytbfgnkakcnhojaa Go.Proofs.Ytbfgnkakcnhojaa.Ls Go.Proofs.Ytbfgnkakcnhojaa.Kb
open Go.Proofs.Ytbfgnkakcnhojaa.Nm hiding ret_bool ret_int

theorem fit_hol {A : List As} {I L : List (ByteArray × Int)} (h : fitB A I L = true) : holB L = true := by
  unfold fitB at h
  rw [Bool.and_eq_true, Bool.and_eq_true] at h
  exact h.1.2

set_option maxRecDepth 100000 in
set_option maxHeartbeats 4000000 in
theorem release_any (aA aI aL : Option Addr) (cA cI cL : Nat) (A : List As) (I L : List (ByteArray × Int)) (t : ByteArray) (need r e0 : Int) (w : World) (hnA : A.length ≤ 1000) (hnI : I.length ≤ 1000) (hnL : L.length ≤ 1000) (hZA : SzA A) (hZI : SzL I) (hZL : SzL L)
    (hA : AtL w 6 asc aA A) (hI : AtL w 2 isc aI I) (hL : AtL w 2 isc aL L) (hR : RelR A I L t need r e0) :
    Calls Try.prog 20 #[.agg #[.slice aA A.length cA, .slice aI I.length cI], .slice aL L.length cL, .string t, .int .i64 need] w fun e w' => e = .returned (.tuple #[.int .i64 r, .int .i64 e0]) ∧ Below w.heap.size w w' := by
  have hbo : Below w.heap.size w (w.alloc (.cells #[.slice aA A.length cA, .slice aI I.length cI] 25)) := (Below.refl _ _).alloc (Nat.le_refl _) _
  have HX0 := Lib.hid (blk_new w (.cells #[.slice aA A.length cA, .slice aI I.length cI] 25))
  have HC := Lib.hid (check_any aA aI aL cA cI cL A I L _ hnA hnI hnL hZA hZI hZL (hA.below hbo) (hI.below hbo) (hL.below hbo))
  have HA := Lib.hid hA
  have HI := Lib.hid hI
  have HL := Lib.hid hL
  clear hA hI hL
  rcases hb (fitB A I L) with hf | hf
  · rw [hf] at HC
    obtain ⟨J, p1, p2, p3, p4⟩ := placeL (fit_hol hf) t
    have HFT := Lib.hid (fits_of hf)
    rcases p4 with ⟨f1, f2, f3, f4⟩ | ⟨f1, f2, f3⟩
    · have hJi : (J : Int) < L.length := by omega
      have hJ0 : (0 : Int) ≤ (J : Int) := by omega
      have hul := HFT.out.rL J f2
      have HFD := Lib.hid (fun (v : World) (hv : AtL v 2 isc aL L) => find_any aL cL L t J true v hnL hv p1 p2 p3 (by rw [decide_eq_true f2, f3]; rfl))
      have HR : Hid ((¬ (0 ≤ need ∧ need ≤ 1125899906842624) ∧ r = 0 ∧ e0 = 2) ∨ ((0 ≤ need ∧ need ≤ 1125899906842624) ∧ val (mkP A L) (moF I) < need ∧ r = 0 ∧ e0 = 50) ∨ ((0 ≤ need ∧ need ≤ 1125899906842624) ∧ need ≤ val (mkP A L) (moF I) ∧ Rel (fun n => Uv A I L J ((gi L J).2 - n)) (gi L J).2 need r ∧ e0 = 0)) := by
        unfold Hid
        cases hR with
        | bad h => rw [hf] at h; cases h
        | none h h0 => rw [f1] at h0; cases h0
        | arg h i h0 h3 h1 h2 => exact .inl ⟨h3, h1, h2⟩
        | cash h i h0 h3 h4 h1 h2 => exact .inr (.inl ⟨h3, h4, h1, h2⟩)
        | ok h i h0 h3 h4 h1 h2 => rw [f1] at h0; cases h0; exact .inr (.inr ⟨h3, h4, h1, h2⟩)
      have HV := Lib.hid (fun (v : World) (hv : Below w.heap.size w v) => value_any aA aI aL cA cI cL A I L v HFT.out hZA hZI (HA.out.below hv) (HI.out.below hv) (HL.out.below hv))
      generalize val (mkP A L) (moF I) = VV at HR HV
      clear hR p2 p3 f1 f3 f4 hf
      rcases HR.out with ⟨g1, g2, g3⟩ | ⟨g1, g4, g2, g3⟩ | ⟨g1, g4, g2, g3⟩
      · subst g2
        subst g3
        have HMO := Lib.hid (show decide (0 ≤ need ∧ need ≤ 1125899906842624) = false from decide_eq_false g1)
        clear g1 HR HV
        go_enter Try.func20, Try.ntmps20
        go_wp2_with fail
        generalize w.alloc _ = wo at hbo HX0 HC ⊢
        refine HC.out.mono ?_
        rintro e w1 ⟨rfl, hb1⟩
        have c1 := bt hbo hb1 (Nat.le_refl _)
        clear HC HX0
        rw [show eV true = 0 from rfl]
        go_wp2_with fail
        refine (HFD.out w1 (HL.out.below c1)).mono ?_
        rintro e w2 ⟨rfl, hb2⟩
        have c2 := bt c1 hb2 (Nat.le_refl _)
        go_wp2_with fail
        refine (money_any need _ _ HMO.out).mono ?_
        rintro e w3 ⟨rfl, rfl⟩
        go_wp2
        go_ret2
        exact ⟨rfl, c2⟩
      · subst g2
        subst g3
        have HMO := Lib.hid (show decide (0 ≤ need ∧ need ≤ 1125899906842624) = true from decide_eq_true g1)
        clear g1 HR
        go_enter Try.func20, Try.ntmps20
        go_wp2_with fail
        generalize w.alloc _ = wo at hbo HX0 HC ⊢
        refine HC.out.mono ?_
        rintro e w1 ⟨rfl, hb1⟩
        have c1 := bt hbo hb1 (Nat.le_refl _)
        have HX1 := Lib.hid (blk_keep HX0.out hb1)
        clear HC HX0
        rw [show eV true = 0 from rfl]
        go_wp2_with fail
        refine (HFD.out w1 (HL.out.below c1)).mono ?_
        rintro e w2 ⟨rfl, hb2⟩
        have c2 := bt c1 hb2 (Nat.le_refl _)
        have hx := blk_keep HX1.out hb2
        have hx0 : w2.cell? ⟨w.heap.size, 0, none⟩ = some (.slice aA A.length cA) := cell_of hx 0 _ rfl
        have hx1 : w2.cell? ⟨w.heap.size, 1, none⟩ = some (.slice aI I.length cI) := cell_of hx 1 _ rfl
        clear hx HX1
        go_wp2_with fail
        refine (money_any need _ _ HMO.out).mono ?_
        rintro e w3 ⟨rfl, rfl⟩
        go_wp2_with fail
        refine (HV.out _ c2).mono ?_
        rintro e w4 ⟨rfl, hb4⟩
        have c4 := bt c2 hb4 (Nat.le_refl _)
        go_wp2
        go_ret2
        exact ⟨rfl, c4⟩
      · subst g3
        have HMO := Lib.hid (show decide (0 ≤ need ∧ need ≤ 1125899906842624) = true from decide_eq_true g1)
        have HRL := Lib.hid (show Rel (fun n => Uv A I L J ((gi L J).2 - n)) (gi L J).2 need r from g2)
        have HRB := Lib.hid (show 0 ≤ r ∧ r ≤ (gi L J).2 from ⟨g2.1, g2.2.1⟩)
        have HTS := Lib.hid (show ∀ n : Int, 0 ≤ n → n ≤ (gi L J).2 → (need ≤ val (mkP A (wo L J n)) (moF I) ↔ n ≤ r) from fun n n0 n1 => by
          rw [wo_val HFT.out J f2]
          refine ⟨fun h => ?_, fun h => ?_⟩
          · rcases Int.lt_or_le r n with g | g
            · have := HRL.out.2.2.2 n g n1
              simp only at this
              omega
            · exact g
          · have h1 := HRL.out.2.2.1
            have hrb := HRB.out
            have h2 := (Uv_mono HFT.out J f2 ((gi L J).2 - r) ((gi L J).2 - n) (by omega) (by omega) (by omega)).1
            simp only at h1
            omega)
        have HWO := Lib.hid (fun (v : World) (n : Int) (hv : Below w.heap.size w v) (n0 : 0 ≤ n) (n1 : n ≤ (gi L J).2) => without_any aL cL L J n v hnL f2 (by omega) (by omega) (HL.out.below hv))
        have HV2 := Lib.hid (fun (v : World) (n : Int) (a' : Option Addr) (c' : Nat) (hv : Below w.heap.size w v) (n0 : 0 ≤ n) (n1 : n ≤ (gi L J).2) (hl : AtL v 2 isc a' (wo L J n)) => value_any aA aI a' cA cI c' A I (wo L J n) v (wo_fits HFT.out J f2 n n0 n1) hZA hZI (HA.out.below hv) (HI.out.below hv) hl)
        obtain ⟨lb, lo, rfl, _⟩ := at_is HL.out J f2
        have HCU := Lib.hid (fun (v : World) (hv : Below w.heap.size w v) => (at_is' (HL.out.below hv) J f2).2)
        clear g1 g2 HR HRL
        go_enter Try.func20, Try.ntmps20
        go_wp2_with fail
        generalize w.alloc _ = wo at hbo HX0 HC ⊢
        refine HC.out.mono ?_
        rintro e w1 ⟨rfl, hb1⟩
        have c1 := bt hbo hb1 (Nat.le_refl _)
        have HX1 := Lib.hid (blk_keep HX0.out hb1)
        clear HC HX0
        rw [show eV true = 0 from rfl]
        go_wp2_with fail
        refine (HFD.out w1 (HL.out.below c1)).mono ?_
        rintro e w2 ⟨rfl, hb2⟩
        have c2 := bt c1 hb2 (Nat.le_refl _)
        have HX2 := Lib.hid (blk_keep HX1.out hb2)
        have hx0 : w2.cell? ⟨w.heap.size, 0, none⟩ = some (.slice aA A.length cA) := cell_of HX2.out 0 _ rfl
        have hx1 : w2.cell? ⟨w.heap.size, 1, none⟩ = some (.slice aI I.length cI) := cell_of HX2.out 1 _ rfl
        clear HX1
        go_wp2_with fail
        refine (money_any need _ _ HMO.out).mono ?_
        rintro e w3 ⟨rfl, rfl⟩
        go_wp2_with fail
        refine (HV.out _ c2).mono ?_
        rintro e w4 ⟨rfl, hb4⟩
        have c4 := bt c2 hb4 (Nat.le_refl _)
        have HX4 := Lib.hid (blk_keep HX2.out hb4)
        have q1 : w4.cell? ⟨lb, lo + J * 2 + 1, none⟩ = some (.int .i64 (gi L J).2) := HCU.out w4 c4
        have hlt : ¬ VV < need := by omega
        have w1q : IntKind.i64.wrap ((gi L J).2 + 1) = (gi L J).2 + 1 := by rw [IntKind.wrap_i64]; omega
        clear hx0 hx1 HX2 HV HFD HCU
        go_wp2_with fail
        go_big_quiet (fail)
        rename_i nq
        have c5 := Lib.hid (below_drewN c4 nq)
        have HX5 := Lib.hid (show (w4.drewN nq).heap[w.heap.size]? = some (.cells #[.slice aA A.length cA, .slice aI I.length cI] 25 (0, 0)) from HX4.out)
        clear w1q hlt q1 HX4 hb4 hb2 hb1 c1 c2 c4 hbo
        generalize w4.drewN nq = w5 at c5 HX5 ⊢
        have hrb := HRB.out
        obtain ⟨u, hu⟩ : ∃ u, u = (gi L J).2 := ⟨_, rfl⟩
        rw [← hu] at hul hrb HTS HWO HV2 ⊢
        clear hu HRB
        go_wp2_with fail
        go_loopw [13, 14, 15] (fun x y _ wr => ∃ l h : Int, x = .int .i64 l ∧ y = .int .i64 h ∧ 0 ≤ l ∧ l ≤ r ∧ r < h ∧ h ≤ u + 1 ∧ Hid (Below w.heap.size w wr) ∧ Hid (wr.heap[w.heap.size]? = some (.cells #[.slice aA A.length cA, .slice aI I.length cI] 25 (0, 0)))) (fun x y _ _ => (intOf y - intOf x).toNat)
        case atStart => exact ⟨0, u + 1, rfl, rfl, by omega, by omega, by omega, by omega, c5, HX5⟩
        case round =>
          clear c5 HX5
          obtain ⟨l, h, rfl, rfl, l0, l1, h0, h1, hbw, HX⟩ := hrel
          by_cases hgt : 1 < h - l
          · obtain ⟨n, hnn⟩ : ∃ n, n = (l + h) / 2 := ⟨_, rfl⟩
            have hn1 : l < n ∧ n < h := by omega
            have HTn := Lib.hid (HTS.out n (by omega) (by omega))
            have HV3 := Lib.hid (fun (v : World) (a' : Option Addr) (c' : Nat) (hv : Below w.heap.size w v) (hl : AtL v 2 isc a' (Co.wo L J n)) => HV2.out v n a' c' hv (by omega) (by omega) hl)
            have HW3 := Lib.hid (fun (v : World) (hv : Below w.heap.size w v) => HWO.out v n hv (by omega) (by omega))
            generalize val (mkP A (Co.wo L J n)) (moF I) = VAL at HTn HV3
            generalize Co.wo L J n = WL at HV3 HW3
            have HN := Lib.hid hnn.symm
            have HB := Lib.hid (show ∀ wx, Below wr.heap.size wr wx → wx.cell? ⟨w.heap.size, 0, none⟩ = some (.slice aA A.length cA) ∧ wx.cell? ⟨w.heap.size, 1, none⟩ = some (.slice aI I.length cI) from
              fun wx hx => ⟨cell_of (blk_keep HX.out hx) 0 _ rfl, cell_of (blk_keep HX.out hx) 1 _ rfl⟩)
            obtain ⟨x0, x1⟩ := HB.out wr (Below.refl _ _)
            have hxl := blk_lt HX.out
            have k0 : Below wr.heap.size wr wr := Below.refl _ _
            have kd := k0.drew
            have hws := hbw.out.size
            clear hnn
            go_wp2_with fail
            rw [HN.out]
            go_region_held3 (fun w' => w'.cell? ⟨w.heap.size, 0, none⟩ = some (.slice aA A.length cA) ∧ w'.cell? ⟨w.heap.size, 1, none⟩ = some (.slice aI I.length cI))
              (first | with_reducible exact HB.out _ (by assumption) | with_reducible exact HB.out _ (Below.drew (by assumption)) | go_keep)
              (first
                | (go_at_call 42; refine (HW3.out wr.drew hbw.out.drew).mono ?_; rintro e w6 ⟨a6, c6, rfl, hO6, hb6⟩; have k6 : Below wr.heap.size wr w6 := bt kd hb6 (Nat.le_refl _); have A6 := Lib.hid (hO6.sl isc_len).1; clear hO6)
                | (go_at_call 39; refine (HV3.out w6 a6 c6 (hbw.out.trans (k6.mono hws)) A6.out).mono ?_; rintro e w7 ⟨rfl, hb7⟩; have k7 : Below wr.heap.size wr w7 := bt k6 hb7 (Nat.le_refl _)))
            all_goals (
              first
              | have HXn := blk_keep HX.out k7
              | skip
              by_cases hnr : n ≤ r
              · have ht := HTn.out.2 hnr
                have hbN := (hbw.out.trans (k7.mono hws))
                go_wp2
                go_roundw
                case rel => exact ⟨n, h, rfl, rfl, by omega, by omega, by omega, by omega, Lib.hid hbN, Lib.hid HXn⟩
                case measure => simp [intOf]; omega
              · have ht := fun q => hnr (HTn.out.1 q)
                have hbN := (hbw.out.trans (k7.mono hws))
                go_wp2
                go_roundw
                case rel => exact ⟨l, n, rfl, rfl, by omega, by omega, by omega, by omega, Lib.hid hbN, Lib.hid HXn⟩
                case measure => simp [intOf]; omega)
          · obtain rfl : l = r := by omega
            go_wp2
            go_ret2
            exact ⟨rfl, hbw.out⟩
    · obtain ⟨rfl, rfl⟩ : r = 0 ∧ e0 = 6 := by
        cases hR with
        | bad h => rw [hf] at h; cases h
        | none h h0 h1 h2 => exact ⟨h1, h2⟩
        | arg h i h0 => rw [f1] at h0; cases h0
        | cash h i h0 => rw [f1] at h0; cases h0
        | ok h i h0 => rw [f1] at h0; cases h0
      have HFD := Lib.hid (fun (v : World) (hv : AtL v 2 isc aL L) => find_any aL cL L t J false v hnL hv p1 p2 p3 (by
        rcases Nat.lt_or_ge J L.length with g | g
        · rw [decide_eq_true g, Bool.true_and]
          exact (beq_eq_false_iff_ne.2 (f2 g)).symm
        · rw [decide_eq_false (by omega)]
          rfl))
      clear hR p2 p3 f1 f2 f3 hf
      go_enter Try.func20, Try.ntmps20
      go_wp2_with fail
      generalize w.alloc _ = wo at hbo HX0 HC ⊢
      refine HC.out.mono ?_
      rintro e w1 ⟨rfl, hb1⟩
      have c1 := bt hbo hb1 (Nat.le_refl _)
      clear HC HX0
      rw [show eV true = 0 from rfl]
      go_wp2_with fail
      refine (HFD.out w1 (HL.out.below c1)).mono ?_
      rintro e w2 ⟨rfl, hb2⟩
      have c2 := bt c1 hb2 (Nat.le_refl _)
      go_wp2
      go_ret2
      exact ⟨rfl, c2⟩
  · obtain ⟨rfl, rfl⟩ : r = 0 ∧ e0 = 8 := by
      cases hR with
      | bad h h1 h2 => exact ⟨h1, h2⟩
      | none h => rw [hf] at h; cases h
      | arg h => rw [hf] at h; cases h
      | cash h => rw [hf] at h; cases h
      | ok h => rw [hf] at h; cases h
    rw [hf] at HC
    clear hR hf
    go_enter Try.func20, Try.ntmps20
    go_wp2_with fail
    generalize w.alloc _ = wo at hbo HX0 HC ⊢
    refine HC.out.mono ?_
    rintro e w1 ⟨rfl, hb1⟩
    have c1 := bt hbo hb1 (Nat.le_refl _)
    clear HC HX0
    rw [show eV false = 8 from rfl]
    go_wp2
    go_ret2
    exact ⟨rfl, c1⟩
end Go.Proofs.Ytbfgnkakcnhojaa.Co
