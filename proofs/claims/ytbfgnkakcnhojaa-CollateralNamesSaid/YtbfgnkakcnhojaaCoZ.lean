/-
  The walk of the law CollateralBack.
-/
import Derived.Test.YtbfgnkakcnhojaaCoO
import Derived.Test.YtbfgnkakcnhojaaCoY
namespace Go.Proofs.Ytbfgnkakcnhojaa.Co
open Go.RowKit Go.Proofs.Ytbfgnkakcnhojaa Go.Proofs.Ytbfgnkakcnhojaa.Ls Go.Proofs.Ytbfgnkakcnhojaa.Kb
open Go.Proofs.Ytbfgnkakcnhojaa.Nm hiding ret_bool ret_int

theorem same_yes (a b : Option Addr) (c d : Nat) (xs : List (ByteArray × Int)) (w : World) (hx : xs.length ≤ 1000) (hA : AtL w 2 isc a xs) (hB : AtL w 2 isc b xs) :
    Calls Try.prog 27 #[.slice a xs.length c, .slice b xs.length d] w fun e w' => e = .returned (.bool true) ∧ Below w.heap.size w w' := by
  have h := same_any a b c d xs xs xs.length xs.length w rfl rfl hx hA hB
  rw [decide_eq_true rfl] at h
  exact h
set_option maxRecDepth 100000 in
set_option maxHeartbeats 8000000 in
theorem back_walk {W : World} (aL : Option Addr) (cL : Nat) (L : List (ByteArray × Int)) (hZL : SzL L) (hL : AtL W 2 isc aL L) (t : ByteArray) (ht : t.size ≤ maxLen) (n : Int) (_hn : (Lit.int .i64 n).wf = true) :
    Calls Try.prog 10 #[.slice aL L.length cL, .string t, .int .i64 n] W fun e W' => e = .returned (.bool true) ∧ Below W.heap.size W W' := by
  rcases Nat.lt_or_ge 40 L.length with hg | hg
  · have hgi : (40 : Int) < L.length := by omega
    go_enter Try.func10, Try.ntmps10
    go_wp2_with fail
    refine (alive_any W).mono ?_
    rintro e w1 ⟨rfl, hb1⟩
    go_wp2
    go_ret
    exact ⟨rfl, hb1⟩
  · have hgi : ¬ (40 : Int) < L.length := by omega
    have HL := Lib.hid hL
    clear hL
    have HTW := Lib.hid (fun (v : World) (hv : Below W.heap.size W v) => twin_any aL cL L v (by omega) (HL.out.below hv))
    have HPU := Lib.hid (fun (v : World) (a' : Option Addr) (c' : Nat) (hl : AtL v 2 isc a' L) => put_any a' c' L t n v (by omega) hZL ht hl)
    by_cases hp : putE L t n = 0
    · obtain ⟨j, hG, hJt, hj, ht1, ht2, hV⟩ := put_grew hp
      have HML := Lib.hid (putV_len L t n)
      have HMZ := Lib.hid (putV_sz hZL ht n)
      rw [hV] at HPU HML HMZ
      rw [hp] at HPU
      generalize putL L t n = M at *
      have HTK := Lib.hid (fun (v : World) (a' : Option Addr) (c' : Nat) (hl : AtL v 2 isc a' M) => take_any a' c' M t n v (by have := HML.out; omega) HMZ.out ht hl)
      rw [ht1, ht2] at HTK
      clear hp hV ht1 ht2
      go_enter Try.func10, Try.ntmps10
      go_wp2_with fail
      refine (alive_any W).mono ?_
      rintro e w1 ⟨rfl, hb1⟩
      go_wp2_with fail
      refine (HTW.out w1 hb1).mono ?_
      rintro e w2 ⟨a2, c2', rfl, hO2, hb2⟩
      have c2 := bt hb1 hb2 (Nat.le_refl _)
      have A2 := Lib.hid (hO2.sl isc_len).1
      clear hO2 hb1 hb2
      go_wp2_with fail
      refine (HPU.out w2 a2 c2' A2.out).mono ?_
      rintro e w3 ⟨a3, c3', rfl, hO3, hb3⟩
      have c3 := bt c2 hb3 (Nat.le_refl _)
      have A3 := Lib.hid (hO3.sl isc_len).1
      clear hO3 hb3 c2 A2 HTW HPU
      go_wp2_with fail
      refine (HTK.out w3 a3 c3' A3.out).mono ?_
      rintro e w4 ⟨a4, c4', rfl, hO4, hb4⟩
      have c4 := Lib.hid (bt c3 hb4 (Nat.le_refl _))
      have A4 := Lib.hid (hO4.sl isc_len).1
      have A5 := Lib.hid (A3.out.below hb4)
      clear hO4 hb4 c3 A3 HTK
      go_wp2_with fail
      have HPF := Lib.hid (fun k hk => pos_facts hG hJt k hk)
      have HEND := Lib.hid (show L.length ≤ M.length by rcases hG with ⟨h, _⟩ | ⟨h, _⟩ <;> omega)
      have HP0 := Lib.hid (show posB L M j 0 = 0 by unfold posB; rw [if_pos (Nat.zero_le _)])
      have HNEQ := Lib.hid (fun (x : ByteArray × Int) (w : World) => neq_hol x x false (by simp) w)
      have hgd := guard_hol
      generalize posB L M j = pos at *
      clear hG hJt hj HMZ hZL ht
      have hml := HML.out
      go_loopw [12, 13] (fun at_ i wr => ∃ k : Nat, k ≤ M.length ∧ i = .int .i64 k ∧ at_ = .int .i64 (pos k) ∧ Hid (Below w4.heap.size w4 wr)) (fun _ i _ => M.length - (intOf i).toNat)
      case atStart => exact ⟨0, by omega, rfl, by rw [HP0.out]; rfl, Below.refl _ _⟩
      case round =>
        obtain ⟨k, hk, rfl, rfl, HBW⟩ := hrel
        rcases Nat.lt_or_ge k M.length with hlt | hge
        · have hki : (k : Int) < M.length := by omega
          have hk0 : (0 : Int) ≤ (k : Int) := by omega
          obtain ⟨mb, mo, rfl, q0, q1⟩ := at_is (A5.out.below HBW.out) k hlt
          change _ = some (Value.string (gi M k).1) at q0
          change _ = some (Value.int .i64 (gi M k).2) at q1
          rcases HPF.out k hlt with ⟨hkt, hpk⟩ | ⟨hkt, Q, hQ, hQl, hQt, hMQ, hpk⟩
          · have heq := eq_yes hkt
            have HPK := Lib.hid hpk
            clear hkt hpk
            go_wp2
            go_roundw
            case rel => exact ⟨k + 1, by omega, by go_num, by rw [HPK.out], HBW⟩
            case measure => simp [intOf]; omega
          · have heq := eq_no hkt
            have HPK := Lib.hid hpk
            have HMQ := Lib.hid hMQ
            have HQT := Lib.hid hQt
            have HQ := Lib.hid hQ
            clear hkt hpk hMQ hQt hQ
            go_wp2_with fail
            rw [HMQ.out] at q0 q1
            clear heq HMQ HPF
            go_loop [12] (fun a => ∃ P : Nat, a = .int .i64 P ∧ (P = Q ∨ (P + 1 = Q ∧ Hid ((gi L P).1 = t)))) (fun a => Q - (intOf a).toNat)
            case atStart =>
              rcases HQ.out with e | ⟨e, _, e2⟩
              · exact ⟨pos k, rfl, .inl e.symm⟩
              · exact ⟨pos k, rfl, .inr ⟨e.symm, e2⟩⟩
            case round =>
              obtain ⟨P, rfl, hP⟩ := hrel
              have hPl : P < L.length := by omega
              have hPi : (P : Int) < L.length := by omega
              have hP0 : (0 : Int) ≤ (P : Int) := by omega
              obtain ⟨lb, lo, rfl, z0, z1⟩ := at_is (HL.out.below (c4.out.trans (HBW.out.mono c4.out.size))) P hPl
              change _ = some (Value.string (gi L P).1) at z0
              change _ = some (Value.int .i64 (gi L P).2) at z1
              rcases hP with rfl | ⟨hP1, hPt⟩
              · have heq := eq_no HQT.out
                have hr := fun w => HNEQ.out (gi L P) w
                have hge : ¬ (L.length : Int) ≤ (P : Int) := by omega
                generalize gi L P = h at *
                clear HQ HQT HNEQ
                go_wp2_with fail
                go_quiet (fail)
                go_wp2
                go_roundw
                case rel => exact ⟨k + 1, by omega, by go_num, by rw [HPK.out]; go_num, below_drewN HBW.out _⟩
                case measure => simp [intOf]; omega
              · have heq := eq_yes hPt.out
                clear hPt HQ HQT HNEQ hgd
                go_wp2
                go_round
                case rel => exact ⟨P + 1, by go_num, .inl hP1⟩
                case measure => simp [intOf]; omega
        · obtain rfl : k = M.length := by omega
          have cW := c4.out.trans (HBW.out.mono c4.out.size)
          have HSM := Lib.hid (same_yes a4 aL c4' cL L wr (by omega) (A4.out.below HBW.out) (HL.out.below cW))
          have hge2 : (L.length : Int) ≤ (M.length : Int) := by have := HEND.out; omega
          clear HPF HP0 HNEQ hgd HEND A4 A5 HBW c4 hge hk
          go_wp2_with fail
          refine HSM.out.mono ?_
          rintro e w9 ⟨rfl, hb9⟩
          have c9 := bt cW hb9 (Nat.le_refl _)
          clear HSM hb9 cW
          go_wp2
          go_ret
          exact ⟨rfl, c9⟩
    · have hM : (putV L t n).length = 0 := by unfold putV; rw [if_neg hp]; rfl
      have hne : (putE L t n != 0) = true := by rw [bne_iff_ne]; exact hp
      rw [hM] at HPU
      generalize putE L t n = PE at *
      generalize putV L t n = M at *
      clear hp hM
      go_enter Try.func10, Try.ntmps10
      go_wp2_with fail
      refine (alive_any W).mono ?_
      rintro e w1 ⟨rfl, hb1⟩
      go_wp2_with fail
      refine (HTW.out w1 hb1).mono ?_
      rintro e w2 ⟨a2, c2', rfl, hO2, hb2⟩
      have c2 := bt hb1 hb2 (Nat.le_refl _)
      have A2 := Lib.hid (hO2.sl isc_len).1
      clear hO2 hb1 hb2
      go_wp2_with fail
      refine (HPU.out w2 a2 c2' A2.out).mono ?_
      rintro e w3 ⟨a3, c3', rfl, hO3, hb3⟩
      have c3 := bt c2 hb3 (Nat.le_refl _)
      have A3 := Lib.hid (hO3.sl isc_len).1
      clear hO3 hb3 c2 A2 HTW HPU
      go_wp2
      go_ret
      exact ⟨rfl, c3⟩
end Go.Proofs.Ytbfgnkakcnhojaa.Co

