/-
  Collateral: the walk of the reference's Release.
-/
import Derived.Test.YtbfgnkakcnhojaaCoS
import Derived.Test.YtbfgnkakcnhojaaCoK
import Derived.Test.YtbfgnkakcnhojaaCqD
namespace Go.Proofs.Ytbfgnkakcnhojaa.Co
open Go.RowKit Go.Proofs.Ytbfgnkakcnhojaa Go.Proofs.Ytbfgnkakcnhojaa.Ls Go.Proofs.Ytbfgnkakcnhojaa.Kb
open Go.Proofs.Ytbfgnkakcnhojaa.Nm hiding ret_bool ret_int

/-- where the halving stands -/
def Halve (r m s : Int) : Prop := (s = 0 ∧ m = r) ∨ ∃ j : Nat, j ≤ 20 ∧ s = ((2 ^ j : Nat) : Int) ∧ m ≤ r ∧ r < m + 2 * s
theorem pow_bound {j : Nat} (h : j ≤ 20) : 1 ≤ 2 ^ j ∧ 2 ^ j ≤ 1048576 := ⟨Nat.one_le_two_pow, Nat.pow_le_pow_right (by omega) h⟩
theorem halve_next {r m s : Int} {j : Nat} (hj : j ≤ 20) (hs : s = ((2 ^ j : Nat) : Int)) (h : m ≤ r) (h2 : r < m + s) : Halve r m (s / 2) := by
  cases j with
  | zero =>
    have : s = 1 := hs
    subst this
    exact .inl ⟨rfl, by omega⟩
  | succ j =>
    have e : s / 2 = ((2 ^ j : Nat) : Int) := by
      rw [hs, Nat.pow_succ]
      have := pow_bound (j := j) (by omega)
      omega
    have e2 : s = 2 * (s / 2) := by
      rw [e, hs, Nat.pow_succ]
      omega
    exact .inr ⟨j, by omega, e, h, by omega⟩
set_option maxRecDepth 100000 in
set_option maxHeartbeats 8000000 in
theorem rrelease_any (aA aI aL : Option Addr) (cA cI cL : Nat) (A : List As) (I L : List (ByteArray × Int)) (t : ByteArray) (need r e0 : Int) (w : World) (hnA : A.length ≤ 1000) (hnI : I.length ≤ 1000) (hnL : L.length ≤ 1000) (hZA : SzA A) (hZI : SzL I) (hZL : SzL L) (ht : t.size ≤ maxLen)
    (hA : AtL w 6 asc aA A) (hI : AtL w 2 isc aI I) (hL : AtL w 2 isc aL L) (hR : RelR A I L t need r e0) :
    Calls Try.prog 21 #[.agg #[.slice aA A.length cA, .slice aI I.length cI], .slice aL L.length cL, .string t, .int .i64 need] w fun e w' => e = .returned (.tuple #[.int .i64 r, .int .i64 e0]) ∧ Below w.heap.size w w' := by
  have hbo : Below w.heap.size w (w.alloc (.cells #[.slice aA A.length cA, .slice aI I.length cI] 25)) := (Below.refl _ _).alloc (Nat.le_refl _) _
  have HX0 := Lib.hid (blk_new w (.cells #[.slice aA A.length cA, .slice aI I.length cI] 25))
  have HC := Lib.hid (rcheck_any aA aI aL cA cI cL A I L _ hnA hnI hnL hZA hZI hZL (hA.below hbo) (hI.below hbo) (hL.below hbo))
  have HA := Lib.hid hA
  have HI := Lib.hid hI
  have HL := Lib.hid hL
  clear hA hI hL
  rcases hb (fitB A I L) with hf | hf
  rotate_left
  · obtain ⟨rfl, rfl⟩ : r = 0 ∧ e0 = 8 := by
      cases hR with
      | bad h h1 h2 => exact ⟨h1, h2⟩
      | none h => rw [hf] at h; cases h
      | arg h => rw [hf] at h; cases h
      | cash h => rw [hf] at h; cases h
      | ok h => rw [hf] at h; cases h
    rw [hf] at HC
    clear hR hf
    go_enter Try.func21, Try.ntmps21
    go_wp2_with fail
    generalize w.alloc _ = wz at hbo HX0 HC ⊢
    refine HC.out.mono ?_
    rintro e w1 ⟨rfl, hb1⟩
    have c1 := bt hbo hb1 (Nat.le_refl _)
    clear HC HX0
    rw [show eV false = 8 from rfl]
    go_wp2
    go_ret2
    exact ⟨rfl, c1⟩
  · rw [hf] at HC
    have HFT := Lib.hid (fits_of hf)
    have HMK := Lib.hid (fun (k : Nat) => (show moK L (k + 1) t = if (gi L k).1 = t then (gi L k).2 else moK L k t from rfl))
    have HM0 := Lib.hid (show moK L 0 t = 0 from rfl)
    have HME := Lib.hid (moK_is L HFT.out.sL t L.length (Nat.le_refl _))
    have HF := Lib.hid hf
    have HR := Lib.hid hR
    clear hf hR
    go_enter Try.func21, Try.ntmps21
    go_wp2_with fail
    generalize w.alloc _ = wz at hbo HX0 HC ⊢
    refine HC.out.mono ?_
    rintro e w1 ⟨rfl, hb1⟩
    have c1 := bt hbo hb1 (Nat.le_refl _)
    have HX1 := Lib.hid (blk_keep HX0.out hb1)
    clear HC HX0 hb1 hbo
    rw [show eV true = 0 from rfl]
    go_wp2_with fail
    go_loop [10, 11] (fun h i => ∃ k : Nat, k ≤ L.length ∧ i = .int .i64 k ∧ h = .int .i64 (moK L k t)) (fun _ i => L.length - (intOf i).toNat)
    case atStart => exact ⟨0, by omega, rfl, by rw [HM0.out]⟩
    case round =>
      obtain ⟨k, hk, rfl, rfl⟩ := hrel
      rcases Nat.lt_or_ge k L.length with hlt | hge
      · have hki : (k : Int) < L.length := by omega
        have hk0 : (0 : Int) ≤ (k : Int) := by omega
        obtain ⟨lb, lo, rfl, q0, q1⟩ := at_is (HL.out.below c1) k hlt
        change _ = some (Value.string (gi L k).1) at q0
        change _ = some (Value.int .i64 (gi L k).2) at q1
        have HS := Lib.hid (HMK.out k)
        by_cases he : (gi L k).1 = t
        · rw [if_pos he] at HS
          have heq := eq_yes he
          clear he
          go_wp2
          go_round
          case rel => exact ⟨k + 1, by omega, by go_num, by rw [HS.out]⟩
          case measure => simp [intOf]; omega
        · rw [if_neg he] at HS
          have heq := eq_no he
          clear he
          go_wp2
          go_round
          case rel => exact ⟨k + 1, by omega, by go_num, by rw [HS.out]⟩
          case measure => simp [intOf]; omega
      · obtain rfl : k = L.length := by omega
        clear HMK HM0 hge hk
        have hR := HR.out
        cases h0 : fnL L t with
        | none =>
          obtain ⟨rfl, rfl⟩ : r = 0 ∧ e0 = 6 := by
            cases hR with
            | bad h => rw [HF.out] at h; cases h
            | none h h0 h1 h2 => exact ⟨h1, h2⟩
            | arg h i h1 => rw [h0] at h1; cases h1
            | cash h i h1 => rw [h0] at h1; cases h1
            | ok h i h1 => rw [h0] at h1; cases h1
          have hno : ∀ i, i < L.length → (gi L i).1 ≠ t := by
            rcases fidx_first L.length (fun i => (gi L i).1) t with ⟨j, hj, _⟩ | ⟨_, hno⟩
            · exact absurd ((show fnL L t = some j from hj).symm.trans h0) (by simp)
            · exact hno
          have hz := HME.out.2 hno
          rw [hz]
          clear hR hno hz h0 HR HME
          go_wp2
          go_ret2
          exact ⟨rfl, c1⟩
        | some J =>
          obtain ⟨f2, f4⟩ := fnL_at h0
          have hm := HME.out.1 J f2 f4
          rw [hm]
          have hul := HFT.out.rL J f2
          have HR2 : Hid ((¬ (0 ≤ need ∧ need ≤ 1125899906842624) ∧ r = 0 ∧ e0 = 2) ∨ ((0 ≤ need ∧ need ≤ 1125899906842624) ∧ val (mkP A L) (moF I) < need ∧ r = 0 ∧ e0 = 50) ∨ ((0 ≤ need ∧ need ≤ 1125899906842624) ∧ need ≤ val (mkP A L) (moF I) ∧ Rel (fun n => Uv A I L J ((gi L J).2 - n)) (gi L J).2 need r ∧ e0 = 0)) := by
            unfold Hid
            cases hR with
            | bad h => rw [HF.out] at h; cases h
            | none h h1 => rw [h0] at h1; cases h1
            | arg h i h0 h3 h1 h2 => exact .inl ⟨h3, h1, h2⟩
            | cash h i h0 h3 h4 h1 h2 => exact .inr (.inl ⟨h3, h4, h1, h2⟩)
            | ok h i h1 h3 h4 h5 h2 => rw [h0] at h1; cases h1; exact .inr (.inr ⟨h3, h4, h5, h2⟩)
          have HV := Lib.hid (fun (v : World) (hv : Below w.heap.size w v) => rvalue_yes aA aI aL cA cI cL A I L v hnA hnI hnL hZA hZI hZL (HA.out.below hv) (HI.out.below hv) (HL.out.below hv) HF.out)
          have h0' := Lib.hid h0
          have hz : ((gi L J).2 == 0) = false := by rw [beq_eq_false_iff_ne]; omega
          clear hR hm HR HME h0
          rcases HR2.out with ⟨g1, rfl, rfl⟩ | ⟨g1, g4, rfl, rfl⟩ | ⟨g1, g4, g2, rfl⟩
          · have HMO := Lib.hid (show decide (0 ≤ need ∧ need ≤ 1125899906842624) = false from decide_eq_false g1)
            clear g1 HR2 HV
            go_wp2_with fail
            refine (rmoney_any need _ _ HMO.out).mono ?_
            rintro e w3 ⟨rfl, rfl⟩
            go_wp2
            go_ret2
            exact ⟨rfl, c1⟩
          · have HMO := Lib.hid (show decide (0 ≤ need ∧ need ≤ 1125899906842624) = true from decide_eq_true g1)
            clear g1 HR2
            have x0 : w1.cell? ⟨w.heap.size, 0, none⟩ = some (.slice aA A.length cA) := cell_of HX1.out 0 _ rfl
            have x1 : w1.cell? ⟨w.heap.size, 1, none⟩ = some (.slice aI I.length cI) := cell_of HX1.out 1 _ rfl
            generalize val (mkP A L) (moF I) = VV at *
            go_wp2_with fail
            refine (rmoney_any need _ _ HMO.out).mono ?_
            rintro e w3 ⟨rfl, rfl⟩
            go_wp2_with fail
            refine (HV.out _ c1).mono ?_
            rintro e w4 ⟨rfl, hb4⟩
            have c4 := bt c1 hb4 (Nat.le_refl _)
            go_wp2
            go_ret2
            exact ⟨rfl, c4⟩
          · have HMO := Lib.hid (show decide (0 ≤ need ∧ need ≤ 1125899906842624) = true from decide_eq_true g1)
            have HRL := Lib.hid (show Rel (fun n => Uv A I L J ((gi L J).2 - n)) (gi L J).2 need r from g2)
            have HRB := Lib.hid (show 0 ≤ r ∧ r ≤ (gi L J).2 from ⟨g2.1, g2.2.1⟩)
            have HTS := Lib.hid (show ∀ n : Int, 0 ≤ n → n ≤ (gi L J).2 → (need ≤ val (mkP A (wo L J n)) (moF I) ↔ n ≤ r) from fun n n0 n1 => by
              rw [wo_val HFT.out J f2]
              refine ⟨fun h => ?_, fun h => ?_⟩
              · rcases Int.lt_or_le r n with g | g
                · have := HRL.out.2.2.2 n g n1
                  simp only at this
                  omega
                · exact g
              · have h1 := HRL.out.2.2.1
                have hrb := HRB.out
                have h2 := (Uv_mono HFT.out J f2 ((gi L J).2 - r) ((gi L J).2 - n) (by omega) (by omega) (by omega)).1
                simp only at h1
                omega)
            have HTK := Lib.hid (fun (n : Int) (n1 : 1 ≤ n) (n2 : n ≤ (gi L J).2) (v : World) (hv : Below w.heap.size w v) => (show Calls Try.prog 32 #[.slice aL L.length cL, .string t, .int .i64 n] v fun e w' => ∃ a' c', e = .returned (.tuple #[.slice a' (wo L J n).length c', .int .i64 0]) ∧ AtL w' 2 isc a' (wo L J n) ∧ Below v.heap.size v w' from by
              have h := rtake_any aL cL L t n v hnL hZL ht (HL.out.below hv)
              rw [(take_ok (fit_hol HF.out) h0'.out n n1 n2).1, (take_ok (fit_hol HF.out) h0'.out n n1 n2).2] at h
              exact h.mono fun e w' ⟨a', c', h1, h2, h3⟩ => ⟨a', c', h1, (h2.sl isc_len).1, h3⟩))
            have HV1 := Lib.hid (fun (n : Int) (n1 : 0 ≤ n) (n2 : n ≤ (gi L J).2) (v : World) (a' : Option Addr) (c' : Nat) (hv : Below w.heap.size w v) (hl : AtL v 2 isc a' (wo L J n)) => rvalue_yes aA aI a' cA cI c' A I (wo L J n) v hnA hnI (by have := wo_len L J f2 n; omega) hZA hZI (wo_sz hZL J f2 n) (HA.out.below hv) (HI.out.below hv) hl (fit_wo HF.out J f2 n n1 n2))
            have x0 : w1.cell? ⟨w.heap.size, 0, none⟩ = some (.slice aA A.length cA) := cell_of HX1.out 0 _ rfl
            have x1 : w1.cell? ⟨w.heap.size, 1, none⟩ = some (.slice aI I.length cI) := cell_of HX1.out 1 _ rfl
            have hng : ¬ val (mkP A L) (moF I) < need := by omega
            clear g1 g2 g4 HR2 HRL
            generalize val (mkP A L) (moF I) = VV at *
            have hrb := HRB.out
            obtain ⟨u, hu⟩ : ∃ u, u = (gi L J).2 := ⟨_, rfl⟩
            rw [← hu] at hul hrb HTS HTK HV1 hz ⊢
            clear hu HRB
            go_wp2_with fail
            refine (rmoney_any need _ _ HMO.out).mono ?_
            rintro e w3 ⟨rfl, rfl⟩
            go_wp2_with fail
            refine (HV.out _ c1).mono ?_
            rintro e w4 ⟨rfl, hb4⟩
            have c4 := Lib.hid (bt c1 hb4 (Nat.le_refl _))
            have HX4 := Lib.hid (blk_keep HX1.out hb4)
            clear x0 x1 hb4 HV HX1 HMO
            go_wp2_with fail
            clear hz hng
            go_loopw [14, 15, 16, 17, 18, 19] (fun x y _ _ _ _ wr => ∃ m s : Int, x = .int .i64 m ∧ y = .int .i64 s ∧ 0 ≤ m ∧ m ≤ r ∧ 0 ≤ s ∧ s ≤ 1048576 ∧ Hid (Halve r m s) ∧ Hid (Below w.heap.size w wr) ∧ Hid (wr.heap[w.heap.size]? = some (.cells #[.slice aA A.length cA, .slice aI I.length cI] 25 (0, 0)))) (fun _ y _ _ _ _ _ => (intOf y).toNat)
            case atStart => exact ⟨0, 1048576, rfl, rfl, by omega, by omega, by omega, by omega, .inr ⟨20, by omega, by decide, by omega, by omega⟩, c4.out, HX4.out⟩
            case round =>
              clear c4 HX4
              obtain ⟨m, s, rfl, rfl, m0, m1, s0, s1, HH, HBW, HX⟩ := hrel
              by_cases hs : 0 < s
              · have HN1 := Lib.hid (show r < m + s → Halve r m (s / 2) from fun h => by
                  rcases HH.out with ⟨h1, _⟩ | ⟨j, h1, h2, h3, h4⟩
                  · omega
                  · exact halve_next h1 h2 h3 h)
                have HN2 := Lib.hid (show m + s ≤ r → Halve r (m + s) (s / 2) from fun h => by
                  rcases HH.out with ⟨h1, _⟩ | ⟨j, h1, h2, h3, h4⟩
                  · omega
                  · exact halve_next h1 h2 h (by omega))
                clear HH
                by_cases hu : u < m + s
                · have HN := Lib.hid (HN1.out (by omega))
                  clear HN1 HN2
                  go_wp2
                  go_roundw
                  case rel => exact ⟨m, s / 2, rfl, by go_num, by omega, by omega, by omega, by omega, HN, HBW, HX⟩
                  case measure => simp [intOf]; omega
                · have HTn := Lib.hid (HTS.out (m + s) (by omega) (by omega))
                  have x0 : wr.cell? ⟨w.heap.size, 0, none⟩ = some (.slice aA A.length cA) := cell_of HX.out 0 _ rfl
                  have x1 : wr.cell? ⟨w.heap.size, 1, none⟩ = some (.slice aI I.length cI) := cell_of HX.out 1 _ rfl
                  have HTQ := Lib.hid (HTK.out (m + s) (by omega) (by omega))
                  have HVQ := Lib.hid (HV1.out (m + s) (by omega) (by omega))
                  generalize val (mkP A (Co.wo L J (m + s))) (moF I) = VAL at HTn HVQ
                  generalize Co.wo L J (m + s) = WL at HTQ HVQ
                  go_wp2_with fail
                  refine (HTQ.out wr HBW.out).mono ?_
                  rintro e w6 ⟨a6, c6, rfl, hA6, hb6⟩
                  have k6 := bt HBW.out hb6 (Nat.le_refl _)
                  have HX6 := Lib.hid (blk_keep HX.out hb6)
                  clear x0 x1 hb6 HX HTQ
                  have x0 : w6.cell? ⟨w.heap.size, 0, none⟩ = some (.slice aA A.length cA) := cell_of HX6.out 0 _ rfl
                  have x1 : w6.cell? ⟨w.heap.size, 1, none⟩ = some (.slice aI I.length cI) := cell_of HX6.out 1 _ rfl
                  go_wp2_with fail
                  refine (HVQ.out w6 a6 c6 k6 hA6).mono ?_
                  rintro e w7 ⟨rfl, hb7⟩
                  have k7 := Lib.hid (bt k6 hb7 (Nat.le_refl _))
                  have HX7 := Lib.hid (blk_keep HX6.out hb7)
                  clear x0 x1 hb7 HX6 hA6 HVQ k6
                  by_cases hr : m + s ≤ r
                  · have hv := HTn.out.2 hr
                    have HN := Lib.hid (HN2.out hr)
                    clear HTn HN1 HN2
                    go_wp2
                    go_roundw
                    case rel => exact ⟨m + s, s / 2, by go_num, by go_num, by omega, by omega, by omega, by omega, HN, k7, HX7⟩
                    case measure => simp [intOf]; omega
                  · have hv : ¬ need ≤ VAL := fun h => hr (HTn.out.1 h)
                    have HN := Lib.hid (HN1.out (by omega))
                    clear HTn HN1 HN2
                    go_wp2
                    go_roundw
                    case rel => exact ⟨m, s / 2, rfl, by go_num, by omega, by omega, by omega, by omega, HN, k7, HX7⟩
                    case measure => simp [intOf]; omega
              · obtain rfl : s = 0 := by omega
                obtain rfl : m = r := by
                  rcases HH.out with ⟨_, h⟩ | ⟨j, h1, h2, h3, h4⟩
                  · exact h
                  · have := pow_bound h1; omega
                clear HH
                go_wp2
                go_ret2
                exact ⟨rfl, HBW.out⟩
end Go.Proofs.Ytbfgnkakcnhojaa.Co
