/-
  Compress: the walk of the reference's Torn.
-/
import Derived.Test.YtpphiohppgphnaaCs7
namespace Go.Proofs.Ytpphiohppgphnaa.Cs
open Go.RowKit Go.Proofs.Ytpphiohppgphnaa Go.Proofs.Ytpphiohppgphnaa.Ls Go.Proofs.Ytpphiohppgphnaa.Kb Go.Proofs.Ytpphiohppgphnaa.Cz
open Go.Proofs.Ytpphiohppgphnaa.Nm hiding ret_bool ret_int hb'

theorem oi_il (cs : List Nat) (k : Nat) (hk : k < cs.length) : (il cs).getD k 0 = (tn cs k : Int) := by
  unfold il
  rw [List.getD_eq_getElem?_getD, List.getElem?_map, List.getElem?_eq_getElem hk, tn_at cs k hk]
  rfl
theorem at_il {w : World} {a : Option Addr} {cs : List Nat} (h : AtL w 1 ic a (il cs)) (k : Nat) (hk : k < cs.length) : ∃ b off, a = some ⟨b, off, none⟩ ∧ w.cell? ⟨b, off + k, none⟩ = some (.int .i64 (tn cs k)) := by
  obtain ⟨b, off, h1, h2⟩ := at_int h k (by rw [il_len]; exact hk)
  rw [oi_il cs k hk] at h2
  exact ⟨b, off, h1, h2⟩
theorem info_tr : (Try.prog.info? 31).map (fun i => (i.zero, i.size, i.bytes)) = some (some (.agg #[.string ⟨#[]⟩, .string ⟨#[]⟩, .string ⟨#[]⟩, .int .i64 0]), 4, 56) := by kernel_rfl
theorem set_amt {w : World} {B : Nat} {a b c d : Value} {t : TypeId} (h : w.heap[B]? = some (.cells #[a, b, c, d] t (0, 0))) (x : Value) : (w.setCell ⟨B, 3, none⟩ x).heap[B]? = some (.cells #[a, b, c, x] t (0, 0)) := by
  simp [World.setCell, Array.getElem?_modify, h]
theorem trc_one' (x : Tr) : ∀ u ∈ trc x, u.oneCell' = true := by simp [trc, Value.oneCell']
set_option maxRecDepth 100000 in
set_option maxHeartbeats 8000000 in
theorem rtorn_any (a b : Option Addr) (cL cC : Nat) (l : List Tr) (cs : List Nat) (w : World) (hn : l.length ≤ 1000000) (hc : cs.length ≤ 1000000) (hnd : cs.Nodup) (hlt : ∀ j, j < cs.length → tn cs j < l.length)
    (ham : ∀ i, i < l.length → 1 ≤ (gt l i).amt ∧ (gt l i).amt ≤ 1125899906842624) (hA : AtL w 4 trc a l) (hB : AtL w 1 ic b (il cs)) :
    Calls Try.prog 32 #[.slice a l.length cL, .slice b cs.length cC] w fun e w' => ∃ a' n' c', e = .returned (.slice a' n' c') ∧ n' = (torn l cs).length ∧ OwnL w' w.heap.size 31 4 trc (.slice a' n' c') (torn l cs) ∧ Below w.heap.size w w' := by
  have HA := Lib.hid hA
  have HC := Lib.hid hB
  have HND := Lib.hid hnd
  have HAM := Lib.hid ham
  have HLT := Lib.hid hlt
  have HLR := Lib.hid (lst_range (l := l) (cs := cs) fun j hj => (ham _ (hlt j hj)).1)
  have HLS := Lib.hid (fun k hk => lst_succ l cs k hk)
  have HL0 := Lib.hid (show lst l cs 0 = 1125899906842624 from rfl)
  have HTK := Lib.hid (tornK_all l cs)
  clear hA hB hnd ham hlt
  generalize lst l cs = ls at *
  go_enter Try.func32, Try.ntmps32
  go_wp2_with fail
  go_loop [5, 6] (fun m i => ∃ k : Nat, k ≤ cs.length ∧ i = .int .i64 k ∧ m = .int .i64 (ls k)) (fun _ i => cs.length - (intOf i).toNat)
  case atStart => exact ⟨0, by omega, rfl, by rw [HL0.out]⟩
  case round =>
    obtain ⟨k, hk, rfl, rfl⟩ := hrel
    rcases Nat.lt_or_ge k cs.length with hkl | hge
    · have hki : (k : Int) < cs.length := by omega
      have hk0 : (0 : Int) ≤ (k : Int) := by omega
      obtain ⟨cb, co, rfl, z0⟩ := at_il HC.out k hkl
      obtain ⟨lb, lo, rfl, q0, q1, q2, q3⟩ := at_tr HA.out (tn cs k) (HLT.out k hkl)
      have hj0 : (0 : Int) ≤ (tn cs k : Int) := by omega
      have hj1 : (tn cs k : Int) < l.length := by have := HLT.out k hkl; omega
      have HS := Lib.hid (show ls (k + 1) = if (gt l (tn cs k)).amt < ls k then (gt l (tn cs k)).amt else ls k by rw [HLS.out k hkl]; split <;> omega)
      clear q0 q1 q2
      generalize (gt l (tn cs k)).amt = am at *
      generalize tn cs k = jj at *
      go_wp2
      go_round
      case rel => exact ⟨k + 1, by omega, by go_num, by rw [HS.out]⟩
      case measure => simp [intOf]; omega
    · obtain rfl : k = cs.length := by omega
      have hm := HLR.out cs.length (Nat.le_refl _)
      clear HL0 HLS HLR HLT hge hk
      generalize ls cs.length = m at *
      have HM := Lib.hid hm
      clear hm
      go_wp2_with fail
      go_loopw [7, 8, 9, 10] (fun o i _ _ wr => ∃ (i0 n0 : Nat) (oa : Option Addr) (oc : Nat), i0 ≤ l.length ∧ i = .int .i64 i0 ∧ n0 = (tornK l cs m i0).length ∧ o = .slice oa n0 oc ∧ Hid (OwnL wr w.heap.size 31 4 trc (.slice oa n0 oc) (tornK l cs m i0)) ∧ Hid (Below w.heap.size w wr)) (fun _ i _ _ _ => l.length - (intOf i).toNat)
      case atStart => exact ⟨0, 0, none, 0, by omega, rfl, rfl, rfl, OwnL.nil _ _ _ _ _, Below.refl _ _⟩
      case round =>
        obtain ⟨i0, n0, oa, oc, hi, rfl, hn0, rfl, HO, HBW⟩ := hrel
        rcases Nat.lt_or_ge i0 l.length with hil | hge
        · have hki : (i0 : Int) < l.length := by omega
          have hk0 : (0 : Int) ≤ (i0 : Int) := by omega
          obtain ⟨lb, lo, rfl, q0, q1, q2, q3⟩ := at_tr (HA.out.below HBW.out) i0 hil
          go_wp2_with fail
          have HX0 := Lib.hid (blk_new wr (.cells #[.string (gt l i0).fr, .string (gt l i0).to_, .string (gt l i0).con, .int .i64 (gt l i0).amt] 31))
          have HB0 := Lib.hid ((Below.refl wr.heap.size wr).alloc (Nat.le_refl _) (.cells #[.string (gt l i0).fr, .string (gt l i0).to_, .string (gt l i0).con, .int .i64 (gt l i0).amt] 31))
          obtain ⟨X, hX⟩ : ∃ X, X = wr.heap.size := ⟨_, rfl⟩
          rw [← hX] at HX0 HB0
          have HXX := Lib.hid hX
          have HTS := Lib.hid (tornK_succ l cs m i0 hil)
          have HTL := Lib.hid (show (tornK l cs m i0).length ≤ i0 from tornK_le l cs m i0)
          have HK0 := Lib.hid (amK_zero l cs m i0)
          have HKO := Lib.hid (fun k (hk : k < cs.length) (h : tn cs k ≠ i0) => amK_other (l := l) (m := m) hk h)
          have HKT := Lib.hid (fun k (hk : k < cs.length) (h : tn cs k = i0) => amK_this (l := l) (m := m) HND.out hk h)
          have HAI := Lib.hid (HAM.out i0 hil)
          rw [← hX]
          clear q0 q1 q2 q3 hX
          generalize wr.alloc _ = wz at HX0 HB0 ⊢
          generalize amK l cs m i0 = am at *
          generalize gt l i0 = x at *
          obtain ⟨xf, xt, xc, xa⟩ := x
          dsimp only at HX0 HK0 HKT HAI HTS ⊢
          go_loopw [10] (fun k wv => ∃ k0 : Nat, k0 ≤ cs.length ∧ k = .int .i64 k0 ∧ Hid (wv.heap[X]? = some (.cells #[.string xf, .string xt, .string xc, .int .i64 (am k0)] 31 (0, 0))) ∧ Hid (Below X wr wv)) (fun k _ => cs.length - (intOf k).toNat)
          case atStart => exact ⟨0, by omega, rfl, by unfold Hid; rw [HK0.out]; exact HX0.out, HB0⟩
          case round =>
            clear HX0 HB0 HK0
            obtain ⟨k0, hk, rfl, HX, HBV⟩ := hrel
            have cv := Lib.hid (HBW.out.trans (HBV.out.mono (by rw [HXX.out]; exact HBW.out.size)))
            have c3 := cell_of HX.out 3 _ rfl
            rcases Nat.lt_or_ge k0 cs.length with hkl | hge
            · have hki : (k0 : Int) < cs.length := by omega
              have hk0 : (0 : Int) ≤ (k0 : Int) := by omega
              obtain ⟨cb, co, rfl, z0⟩ := at_il (HC.out.below cv.out) k0 hkl
              by_cases he : tn cs k0 = i0
              · have e1 : ((tn cs k0 : Int) == (i0 : Int)) = true := by rw [beq_iff_eq]; omega
                obtain ⟨h1, h2⟩ := HKT.out k0 hkl he
                have H2 := Lib.hid h2
                rw [h1] at c3
                have fz := frozen_of HX.out 3
                have hai := HAI.out
                have hm := HM.out
                have g3 : -9223372036854775808 ≤ xa - m := by omega
                have g4 : xa - m ≤ 9223372036854775807 := by omega
                clear he h1 h2 hm hai HKO HKT HTS
                generalize (tn cs k0 : Int) = tk at *
                go_wp2
                go_roundw
                case rel => exact ⟨k0 + 1, by omega, by go_num, by unfold Hid; rw [H2.out]; exact set_amt HX.out _, Lib.hid (HBV.out.setCell (Nat.le_refl _) _)⟩
                case measure => simp [intOf]; omega
              · have e1 : ((tn cs k0 : Int) == (i0 : Int)) = false := by rw [beq_eq_false_iff_ne]; omega
                have H2 := Lib.hid (HKO.out k0 hkl he)
                clear he HKO HKT HTS c3
                generalize (tn cs k0 : Int) = tk at *
                go_wp2
                go_roundw
                case rel => exact ⟨k0 + 1, by omega, by go_num, by unfold Hid; rw [H2.out]; exact HX.out, HBV⟩
                case measure => simp [intOf]; omega
            · obtain rfl : k0 = cs.length := by omega
              have HS := Lib.hid HBV.out.size
              clear HKO HKT hge hk HM HAI
              generalize am cs.length = av at *
              have htl := HTL.out
              by_cases hp : 0 < av
              · have e1 : decide (0 < av) = true := decide_eq_true hp
                rw [if_pos hp] at HTS
                have c0 := cell_of HX.out 0 _ rfl
                have c1 := cell_of HX.out 1 _ rfl
                have c2 := cell_of HX.out 2 _ rfl
                change _ = some (Value.string xf) at c0
                change _ = some (Value.string xt) at c1
                change _ = some (Value.string xc) at c2
                change _ = some (Value.int .i64 av) at c3
                have HO2 := Lib.hid (HO.out.below (HBV.out.mono (by rw [HXX.out]; exact Nat.le_refl _)))
                have HSW := Lib.hid cv.out.size
                clear hp HX
                go_wp2_with (at_builtin; refine wpList_append_L (P := Try.prog) (α := Tr) rfl _ _ _ rfl 31 (.agg #[.string ⟨#[]⟩, .string ⟨#[]⟩, .string ⟨#[]⟩, .int .i64 0]) 4 56 Try.underlying22 info_tr rfl (by decide) w.heap.size trc (.slice oa n0 oc) (tornK l cs m i0) (⟨xf, xt, xc, av⟩ : Tr) wr.heap.size #[.string xf, .string xt, .string xc, .int .i64 av] (by rfl) (by rfl) (HO2.out.below ((Below.refl _ _).alloc (Nat.le_refl _) _)) (blk_new wr _) rfl (trc_len _) (trc_one _) (by unfold maxLen; omega) (by omega) (by have := HSW.out; simp; omega) ?_; intro g9 cap w9 ho9 hg9 hat9)
                have k9 := Lib.hid ((cv.out.alloc cv.out.size (.cells #[.string xf, .string xt, .string xc, .int .i64 av] 31)).grown hg9 (by have := HSW.out; simp; omega) (fun j hj => (HO.out.lt j hj).1))
                have HO9 := Lib.hid ho9
                clear ho9 hg9 hat9
                go_wp2
                go_roundw
                case rel => exact ⟨i0 + 1, n0 + 1, some ⟨g9, 0, none⟩, cap, by omega, by go_num, by rw [HTS.out, List.length_append, ← hn0]; rfl, by subst hn0; rfl, by unfold Hid; rw [HTS.out]; subst hn0; exact HO9.out, k9⟩
                case measure => simp [intOf]; omega
              · have e1 : decide (0 < av) = false := decide_eq_false hp
                rw [if_neg hp] at HTS
                clear hp HX
                go_wp2
                go_roundw
                case rel => exact ⟨i0 + 1, n0, oa, oc, by omega, by go_num, by rw [HTS.out]; exact hn0, rfl, by unfold Hid; rw [HTS.out]; exact HO.out.below (HBV.out.mono (by rw [HXX.out]; exact Nat.le_refl _)), cv⟩
                case measure => simp [intOf]; omega
        · obtain rfl : i0 = l.length := by omega
          go_wp2
          go_ret
          rw [HTK.out] at hn0
          exact ⟨oa, n0, oc, rfl, hn0, by rw [← HTK.out]; exact HO.out, HBW.out⟩
end Go.Proofs.Ytpphiohppgphnaa.Cs
