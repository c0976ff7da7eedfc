/-
  Member: the walk of holds.
-/
import Derived.Test.YtoemjpfoddeinaaMwR
namespace Go.Proofs.Ytoemjpfoddeinaa.Mb
open Go.RowKit Go.Proofs.Ytoemjpfoddeinaa Go.Proofs.Ytoemjpfoddeinaa.Ls Go.Proofs.Ytoemjpfoddeinaa.Kb
open Go.Proofs.Ytoemjpfoddeinaa.Nm hiding ret_bool ret_int

theorem okA_use {ro : Int} {a : Ac} (h : okA ro a = true) : -a.lim ≤ a.us ∧ a.us ≤ a.lim := by
  unfold okA at h
  simp at h
  omega
set_option maxRecDepth 100000 in
set_option maxHeartbeats 8000000 in
theorem holds_any (a : Option Addr) (c n : Nat) (ms : List Me) (w : World) (hc : chk ms = 0) (hn : ms.length = n) (hS : St w a ms) :
    Calls Try.prog 30 #[.agg #[.slice a n c]] w fun e w' => e = .returned (.bool true) ∧ Below w.heap.size w w' := by
  obtain ⟨h64, _, hval⟩ := (chk_iff _).1 hc
  have HV := Lib.hid hval
  have HN := Lib.hid hn
  have hn64 : n ≤ 64 := by omega
  have HS := Lib.hid hS
  have hbo : Below w.heap.size w (w.alloc (.cells #[.slice a n c] 24)) := (Below.refl _ _).alloc (Nat.le_refl _) _
  have HX := Lib.hid (blk_new w (.cells #[.slice a n c] 24))
  clear hval hn hS h64 hc
  go_enter Try.func30, Try.ntmps30
  go_wp2_with fail
  generalize w.alloc _ = wo at hbo HX ⊢
  go_loopw [3, 4, 5, 6, 7] (fun i _ _ _ _ wr => ∃ k : Nat, k ≤ n ∧ i = .int .i64 k ∧ Hid (Below wo.heap.size wo wr)) (fun i _ _ _ _ _ => n - (intOf i).toNat)
  case atStart => exact ⟨0, by omega, rfl, Below.refl _ _⟩
  case round =>
    obtain ⟨k, hk, rfl, HB⟩ := hrel
    have x0 := cell_of (blk_keep HX.out HB.out) 0 _ rfl
    have hbw := bt hbo HB.out (Nat.le_refl _)
    by_cases hlt : k < n
    · have k0 : (0 : Int) ≤ k := by omega
      have k1 : (k : Int) < n := by omega
      obtain ⟨b, off, pa, pc, rfl, q0, q1, q2, q3, q4, hac⟩ := (HS.out.below hbw).at k (by rw [HN.out]; exact hlt)
      have hv := HV.out _ (gm_mem ms k (by rw [HN.out]; exact hlt))
      have HAC := Lib.hid hac
      generalize gm ms k = x at q0 q1 q2 q3 q4 hv HAC
      have hl16 := (val_parts hv).2.1
      have HOA := Lib.hid (val_parts hv).2.2
      have HEX := Lib.hid (ex_take x.ac 1125899906842624 (by omega) (used_b hv))
      have hex := val_ex hv
      have hmon := val_mon hv
      unfold mon at hmon
      simp only [Bool.and_eq_true, decide_eq_true_eq] at hmon
      have m1 : ¬ (1125899906842624 : Int) < x.lim := by omega
      have m2 : ¬ x.lim < ex x.ac := by omega
      have HM1 := Lib.hid m1
      have HM2 := Lib.hid m2
      have hal : Below wr.heap.size wr (wr.alloc (.cells #[.string x.nm, .int .u8 x.ro, .bool x.su, .int .i64 x.lim, .slice pa x.ac.length pc] 30)) := (Below.refl _ _).alloc (Nat.le_refl _) _
      have HMB := Lib.hid (blk_new wr (.cells #[.string x.nm, .int .u8 x.ro, .bool x.su, .int .i64 x.lim, .slice pa x.ac.length pc] 30))
      have HAL := Lib.hid hal
      clear hv hac hex hmon hbw m1 m2 hal
      go_wp2_with fail
      generalize hwz : wr.alloc _ = wz at HMB HAL ⊢
      clear hwz q0 q1 q2 q3 q4 x0
      obtain ⟨XM, hXM⟩ : ∃ X, X = wr.heap.size := ⟨_, rfl⟩
      rw [← hXM] at HMB ⊢
      clear hXM
      go_loopw [5, 6, 7] (fun s j _ wq => ∃ q : Nat, q ≤ x.ac.length ∧ j = .int .i64 q ∧ s = .int .i64 (ex (x.ac.take q)) ∧ Hid (Below wz.heap.size wz wq)) (fun _ j _ _ => x.ac.length - (intOf j).toNat)
      case atStart => exact ⟨0, by omega, rfl, rfl, Below.refl _ _⟩
      case round =>
        obtain ⟨q, hq, rfl, rfl, HB2⟩ := hrel
        have z3 := cell_of (blk_keep HMB.out HB2.out) 3 _ rfl
        have z4 := cell_of (blk_keep HMB.out HB2.out) 4 _ rfl
        by_cases hlq : q < x.ac.length
        · have j0 : (0 : Int) ≤ q := by omega
          have j1 : (q : Int) < x.ac.length := by omega
          have j2 : ¬ (16 : Int) ≤ q := by omega
          obtain ⟨b2, off2, rfl, p0, p1, p2, p3⟩ := at_a ((HAC.out.below HAL.out).below HB2.out) q hlq
          have hoa := HOA.out _ (ga_mem x.ac q hlq)
          have hb1 := okA_bound hoa
          have hb2 := okA_use hoa
          have he1 := HEX.out q (by omega)
          have hs : ex (x.ac.take (q + 1)) = ex (x.ac.take q) + ab (ga x.ac q).us := by rw [take_succ_a x.ac q hlq, ex_snoc]
          generalize ex (x.ac.take q) = S0 at *
          generalize ga x.ac q = y at *
          have HS2 := Lib.hid hs
          clear hoa hs
          have c1 : ¬ y.lim < 0 := by omega
          have c2 : ¬ (1125899906842624 : Int) < y.lim := by omega
          have c3 : IntKind.i64.wrap (-y.lim) = -y.lim := IntWalk.i64_in _ (by omega)
          have c4 : ¬ y.us < -y.lim := by omega
          have c5 : ¬ y.lim < y.us := by omega
          by_cases hneg : y.us < 0
          · have w1 : IntKind.i64.wrap (S0 - y.us) = S0 - y.us := IntWalk.i64_in _ (by omega)
            have HE := Lib.hid (show S0 - y.us = ex (x.ac.take (q + 1)) by rw [HS2.out]; unfold ab; omega)
            have hbz : Below wz.heap.size wz (wr.alloc (.cells #[.string y.nm, .bool y.cl, .int .i64 y.lim, .int .i64 y.us] 32)) := HB2.out.alloc HB2.out.size _
            clear he1 hb1 hb2
            go_wp2_with fail
            go_roundw
            case rel => exact ⟨q + 1, by omega, by go_num, by rw [HE.out], hbz⟩
            case measure => simp [intOf]; omega
          · have w1 : IntKind.i64.wrap (S0 + y.us) = S0 + y.us := IntWalk.i64_in _ (by omega)
            have HE := Lib.hid (show S0 + y.us = ex (x.ac.take (q + 1)) by rw [HS2.out]; unfold ab; omega)
            have hbz : Below wz.heap.size wz (wr.alloc (.cells #[.string y.nm, .bool y.cl, .int .i64 y.lim, .int .i64 y.us] 32)) := HB2.out.alloc HB2.out.size _
            clear he1 hb1 hb2
            go_wp2_with fail
            go_roundw
            case rel => exact ⟨q + 1, by omega, by go_num, by rw [HE.out], hbz⟩
            case measure => simp [intOf]; omega
        · obtain rfl : q = x.ac.length := by omega
          have j1 : ¬ (x.ac.length : Int) < x.ac.length := by omega
          have m1 := HM1.out
          have m2 := HM2.out
          rw [List.take_of_length_le (Nat.le_refl _)]
          go_wp2_with fail
          go_roundw
          case rel => exact ⟨k + 1, by omega, by go_num, bt HB.out (bt HAL.out HB2.out (Nat.le_refl _)) (Nat.le_refl _)⟩
          case measure => simp [intOf]; omega
    · have k1 : ¬ (k : Int) < n := by omega
      have k2 : (n : Int) ≤ 64 := by omega
      go_wp2_with fail
      go_ret
      exact ⟨rfl, hbw⟩
end Go.Proofs.Ytoemjpfoddeinaa.Mb
