/-
  The walk of the law CollateralMoves.
-/
import Derived.Test.YtbfgnkakcnhojaaCoZ
import Derived.Test.YtbfgnkakcnhojaaCqD
import Derived.Test.YtbfgnkakcnhojaaCqE
namespace Go.Proofs.Ytbfgnkakcnhojaa.Co
open Go.RowKit Go.Proofs.Ytbfgnkakcnhojaa Go.Proofs.Ytbfgnkakcnhojaa.Ls Go.Proofs.Ytbfgnkakcnhojaa.Kb
open Go.Proofs.Ytbfgnkakcnhojaa.Nm hiding ret_bool ret_int

theorem takV_len (L : List (ByteArray × Int)) (t : ByteArray) (n : Int) : (takV L t n).length ≤ L.length := by
  unfold takV
  split
  · cases h : fnL L t with
    | none => exact Nat.zero_le _
    | some i => exact wo_len L i (fnL_at h).1 n
  · exact Nat.zero_le _
set_option maxRecDepth 100000 in
set_option maxHeartbeats 8000000 in
theorem moves_walk {W : World} (aL : Option Addr) (cL : Nat) (L : List (ByteArray × Int)) (hZL : SzL L) (hL : AtL W 2 isc aL L) (t : ByteArray) (ht : t.size ≤ maxLen) (n : Int) (_hn : (Lit.int .i64 n).wf = true) :
    Calls Try.prog 8 #[.slice aL L.length cL, .string t, .int .i64 n] W fun e W' => e = .returned (.bool true) ∧ Below W.heap.size W W' := by
  rcases Nat.lt_or_ge 40 L.length with hg | hg
  · have hgi : (40 : Int) < L.length := by omega
    go_enter Try.func8, Try.ntmps8
    go_wp2_with fail
    refine (alive_any W).mono ?_
    rintro e w1 ⟨rfl, hb1⟩
    go_wp2
    go_ret
    exact ⟨rfl, hb1⟩
  · have hgi : ¬ (40 : Int) < L.length := by omega
    have HL := Lib.hid hL
    clear hL
    have HTW := Lib.hid (fun (v : World) (hv : Below W.heap.size W v) => twin_any aL cL L v (by omega) (HL.out.below hv))
    have HPU := Lib.hid (fun (v : World) (a' : Option Addr) (c' : Nat) (hl : AtL v 2 isc a' L) => put_any a' c' L t n v (by omega) hZL ht hl)
    have HRP := Lib.hid (fun (v : World) (hv : Below W.heap.size W v) => rput_any aL cL L t n v (by omega) hZL ht (HL.out.below hv))
    have HTK := Lib.hid (fun (v : World) (a' : Option Addr) (c' : Nat) (hl : AtL v 2 isc a' L) => take_any a' c' L t n v (by omega) hZL ht hl)
    have HRT := Lib.hid (fun (v : World) (hv : Below W.heap.size W v) => rtake_any aL cL L t n v (by omega) hZL ht (HL.out.below hv))
    have HP0 := Lib.hid (putV_len L t n)
    have HT0 := Lib.hid (show (takV L t n).length ≤ L.length from takV_len L t n)
    clear hZL ht
    generalize putE L t n = PE at *
    generalize putV L t n = PV at *
    generalize takE L t n = TE at *
    generalize takV L t n = TV at *
    go_enter Try.func8, Try.ntmps8
    go_wp2_with fail
    refine (alive_any W).mono ?_
    rintro e w1 ⟨rfl, hb1⟩
    go_wp2_with fail
    refine (HTW.out w1 hb1).mono ?_
    rintro e w2 ⟨a2, c2', rfl, hO2, hb2⟩
    have c2 := bt hb1 hb2 (Nat.le_refl _)
    have O2 := Lib.hid hO2
    have S2 := Lib.hid (fun b e => (hO2.lt b e).2)
    have E1 := hb1.size
    clear hO2 hb1
    go_wp2_with fail
    refine (HPU.out w2 a2 c2' (O2.out.sl isc_len).1).mono ?_
    rintro e w3 ⟨a3, c3', rfl, hO3, hb3⟩
    have c3 := bt c2 hb3 (Nat.le_refl _)
    have O3 := Lib.hid hO3
    have S3 := Lib.hid (fun b e => hO3.lt b e)
    have O23 := Lib.hid (O2.out.below hb3)
    clear hO3
    go_wp2_with fail
    refine (HRP.out w3 c3).mono ?_
    rintro e w4 ⟨a4, c4', rfl, hO4, hb4⟩
    have c4 := bt c3 hb4 (Nat.le_refl _)
    have O34 := Lib.hid (O3.out.below hb4)
    have O24 := Lib.hid (O23.out.below hb4)
    have A4 := Lib.hid (hO4.sl isc_len).1
    clear hO4 O3 O23
    go_wp2_with fail
    refine (HTK.out w4 a2 c2' (O24.out.sl isc_len).1).mono ?_
    rintro e w5 ⟨a5, c5', rfl, hO5, hb5⟩
    have c5 := bt c4 hb5 (Nat.le_refl _)
    have O5 := Lib.hid hO5
    have S5 := Lib.hid (fun b e => hO5.lt b e)
    have O35 := Lib.hid (O34.out.below hb5)
    have O25 := Lib.hid (O24.out.below hb5)
    have A5 := Lib.hid (A4.out.below hb5)
    clear hO5 O34 O24 A4
    go_wp2_with fail
    refine (HRT.out w5 c5).mono ?_
    rintro e w6 ⟨a6, c6', rfl, hO6, hb6⟩
    have c6 := bt c5 hb6 (Nat.le_refl _)
    have O36 := Lib.hid (O35.out.below hb6)
    have O26 := Lib.hid (O25.out.below hb6)
    have O56 := Lib.hid (O5.out.below hb6)
    have A46 := Lib.hid (A5.out.below hb6)
    have A6 := Lib.hid (hO6.sl isc_len).1
    clear hO6 O35 O25 O5 A5 HTW HPU HRP HTK HRT
    have hpv := HP0.out
    have htv := HT0.out
    go_wp2_with fail
    refine (same_yes a3 a4 c3' c4' PV w6 (by omega) (O36.out.sl isc_len).1 A46.out).mono ?_
    rintro e w7 ⟨rfl, hb7⟩
    have c7 := bt c6 hb7 (Nat.le_refl _)
    have O57 := Lib.hid (O56.out.below hb7)
    have A67 := Lib.hid (A6.out.below hb7)
    go_wp2_with fail
    refine (same_yes a5 a6 c5' c6' TV w7 (by omega) (O57.out.sl isc_len).1 A67.out).mono ?_
    rintro e w8 ⟨rfl, hb8⟩
    have C9 := Lib.hid (bt c7 hb8 (Nat.le_refl _))
    have P3 := Lib.hid ((O36.out.below hb7).below hb8)
    have P5 := Lib.hid (O57.out.below hb8)
    have P2 := Lib.hid ((O26.out.below hb7).below hb8)
    have HBA := Lib.hid (show W.heap.size ≤ w1.heap.size ∧ w2.heap.size ≤ w4.heap.size ∧ w2.heap.size ≤ w3.heap.size ∧ w1.heap.size ≤ w2.heap.size ∧ w3.heap.size ≤ w4.heap.size by have := hb2.size; have := hb3.size; have := hb4.size; omega)
    clear O36 O57 O26 O56 A67 A46 A6 c2 c3 c4 c5 c6 c7 hb2 hb3 hb4 hb5 hb6 hb7 hb8 O2 E1
    have H35 := Lib.hid (show ∀ b, (Value.slice a3 PV.length c3').ownBlock = some b → (Value.slice a5 TV.length c5').ownBlock ≠ some b from fun b e1 e2 => by
      have h1 := S3.out b e1
      have h2 := S5.out b e2
      have := HBA.out
      omega)
    go_wp2_with fail
    go_loopw [18] (fun i wr => ∃ (k : Nat) (M : List (ByteArray × Int)), k ≤ PV.length ∧ M.length = PV.length ∧ i = .int .i64 k ∧ Hid (OwnL wr w2.heap.size 56 2 isc (.slice a3 PV.length c3') M) ∧ Hid (OwnL wr w4.heap.size 56 2 isc (.slice a5 TV.length c5') TV) ∧ Hid (OwnL wr w1.heap.size 56 2 isc (.slice a2 L.length c2') L) ∧ Hid (Below W.heap.size W wr)) (fun i _ => PV.length - (intOf i).toNat)
    case atStart => exact ⟨0, PV, by omega, rfl, rfl, P3.out, P5.out, P2.out, C9.out⟩
    case round =>
      obtain ⟨k, M, hk, hM, rfl, HO3, HO5, HO2, HBW⟩ := hrel
      rcases Nat.lt_or_ge k PV.length with hlt | hge
      · obtain ⟨g, cur, rfl, _, hgB, hg, hcap, _, _, _⟩ := HO3.out.row (by omega)
        have hki : (k : Int) < PV.length := by omega
        have hk0 : (0 : Int) ≤ (k : Int) := by omega
        have q1 := (at_is' (HO3.out.sl isc_len).1 k (by omega)).2
        simp only [Nat.zero_add] at q1
        have f1 : wr.frozen? ⟨g, k * 2 + 1, none⟩ = false := frozen_of hg _
        have hO3 := HO3.out
        rw [← hM] at hO3
        have HN3 := Lib.hid (own_upd hO3 k (by omega) (-7))
        have HML := Lib.hid (show (M.take k ++ ((gi M k).1, (-7 : Int)) :: M.drop (k + 1)).length = PV.length by rw [List.length_append, List.length_take, List.length_cons, List.length_drop]; omega)
        have HN5 := Lib.hid (HO5.out.far (p := ⟨g, k * 2 + 1, none⟩) (H35.out g rfl) (.int .i64 (-7)))
        have HN2 := Lib.hid (HO2.out.far (p := ⟨g, k * 2 + 1, none⟩) (fun e => by have h1 := S2.out g e; omega) (.int .i64 (-7)))
        have HNB := Lib.hid (HBW.out.setCell (p := ⟨g, k * 2 + 1, none⟩) (by have := HBA.out; show W.heap.size ≤ g; omega) (.int .i64 (-7)))
        rw [hM] at HN3
        have HM := Lib.hid hM
        clear hO3 hg HO3 HO5 HO2 HBW hgB hcap hM
        go_wp2
        go_roundw
        case rel => exact ⟨k + 1, _, by omega, HML.out, by go_num, HN3, HN5, HN2, HNB⟩
        case measure => simp [intOf]; omega
      · obtain rfl : k = PV.length := by omega
        have Q5 := HO5
        have Q2 := HO2
        have D9 := HBW
        clear HO3 HO5 HO2 HBW hge hk C9 P3 P5 P2 H35
        go_wp2_with fail
        go_loopw [19] (fun i wr => ∃ (k : Nat) (M : List (ByteArray × Int)), k ≤ TV.length ∧ M.length = TV.length ∧ i = .int .i64 k ∧ Hid (OwnL wr w4.heap.size 56 2 isc (.slice a5 TV.length c5') M) ∧ Hid (OwnL wr w1.heap.size 56 2 isc (.slice a2 L.length c2') L) ∧ Hid (Below W.heap.size W wr)) (fun i _ => TV.length - (intOf i).toNat)
        case atStart => exact ⟨0, TV, by omega, rfl, rfl, Q5.out, Q2.out, D9.out⟩
        case round =>
          obtain ⟨k, M, hk, hM, rfl, HO5, HO2, HBW⟩ := hrel
          rcases Nat.lt_or_ge k TV.length with hlt | hge
          · obtain ⟨g, cur, rfl, _, hgB, hg, hcap, _, _, _⟩ := HO5.out.row (by omega)
            have hki : (k : Int) < TV.length := by omega
            have hk0 : (0 : Int) ≤ (k : Int) := by omega
            have q1 := (at_is' (HO5.out.sl isc_len).1 k (by omega)).2
            simp only [Nat.zero_add] at q1
            have f1 : wr.frozen? ⟨g, k * 2 + 1, none⟩ = false := frozen_of hg _
            have hO5 := HO5.out
            rw [← hM] at hO5
            have HN5 := Lib.hid (own_upd hO5 k (by omega) (-7))
            have HML := Lib.hid (show (M.take k ++ ((gi M k).1, (-7 : Int)) :: M.drop (k + 1)).length = TV.length by rw [List.length_append, List.length_take, List.length_cons, List.length_drop]; omega)
            have HN2 := Lib.hid (HO2.out.far (p := ⟨g, k * 2 + 1, none⟩) (fun e => by have h1 := S2.out g e; have h3 := HBA.out; omega) (.int .i64 (-7)))
            have HNB := Lib.hid (HBW.out.setCell (p := ⟨g, k * 2 + 1, none⟩) (by have := HBA.out; show W.heap.size ≤ g; omega) (.int .i64 (-7)))
            rw [hM] at HN5
            have HM := Lib.hid hM
            clear hO5 hg HO5 HO2 HBW hgB hcap hM
            go_wp2
            go_roundw
            case rel => exact ⟨k + 1, _, by omega, HML.out, by go_num, HN5, HN2, HNB⟩
            case measure => simp [intOf]; omega
          · obtain rfl : k = TV.length := by omega
            have HSM := Lib.hid (same_yes a2 aL c2' cL L wr (by omega) (HO2.out.sl isc_len).1 (HL.out.below HBW.out))
            clear hge hk HO5 HO2
            go_wp2_with fail
            refine HSM.out.mono ?_
            rintro e w9 ⟨rfl, hb9⟩
            have cE := bt HBW.out hb9 (Nat.le_refl _)
            clear HSM hb9
            go_wp2
            go_ret
            exact ⟨rfl, cE⟩
end Go.Proofs.Ytbfgnkakcnhojaa.Co

