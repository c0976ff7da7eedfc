/-
  Compress: the walk of Compress.
-/
import Derived.Test.YtpphiohppgphnaaCv4
namespace Go.Proofs.Ytpphiohppgphnaa.Cs
open Go.RowKit Go.Proofs.Ytpphiohppgphnaa Go.Proofs.Ytpphiohppgphnaa.Ls Go.Proofs.Ytpphiohppgphnaa.Kb Go.Proofs.Ytpphiohppgphnaa.Cz
open Go.Proofs.Ytpphiohppgphnaa.Nm hiding ret_bool ret_int hb'

set_option maxRecDepth 100000 in
set_option maxHeartbeats 8000000 in
theorem compress_any (a : Option Addr) (cL : Nat) (l out : List Tr) (e0 : Int) (w : World) (hn : l.length ≤ 1000) (hZ : SzT l) (hA : AtL w 4 trc a l) (hr : ComR l out e0) :
    Calls Try.prog 11 #[.slice a l.length cL] w fun e w' => ∃ a' c', e = .returned (.tuple #[.slice a' out.length c', .int .i64 e0]) ∧ OwnL w' w.heap.size 31 4 trc (.slice a' out.length c') out ∧ Below w.heap.size w w' := by
  have qn := neq_nil_int
  have HC := Lib.hid (check_any a cL l w (by omega) hZ hA)
  have HA := Lib.hid hA
  clear hA
  cases hr with
  | bad h =>
    have h1 : chkE l = 4 ∨ chkE l = 8 := by
      rcases chk_cases l with ⟨h0, _⟩ | h1 | h1
      · exact absurd h0 h
      · exact .inl h1
      · exact .inr h1
    rcases h1 with h1 | h1
    all_goals
      rw [h1] at HC ⊢
      clear h h1 HA
      go_enter Try.func11, Try.ntmps11
      go_wp2_with fail
      refine HC.out.mono ?_
      rintro e w1 ⟨rfl, hb1⟩
      go_wp2
      go_ret2
      exact ⟨none, 0, rfl, OwnL.nil _ _ _ _ _, hb1⟩
  | ok h out k =>
    have HV := Lib.hid (show vldB l = true by
      rcases chk_cases l with ⟨_, h1, _⟩ | h1 | h1
      · exact h1
      · rw [h] at h1; cases h1
      · rw [h] at h1; cases h1)
    rw [h] at HC
    have HK := Lib.hid k
    clear h k
    go_enter Try.func11, Try.ntmps11
    go_wp2_with fail
    refine HC.out.mono ?_
    rintro e w1 ⟨rfl, hb1⟩
    have C1 := Lib.hid hb1
    have HCL := Lib.hid (clone_tr a cL l w1 (by omega) (HA.out.below hb1))
    clear HC hb1
    go_wp2_with fail
    refine HCL.out.mono ?_
    rintro e w2 ⟨oa, oc, rfl, ho2, hb2⟩
    have C2 := Lib.hid (bt C1.out hb2 (Nat.le_refl _))
    have HO2 := Lib.hid (ho2.lower' C1.out.size)
    obtain ⟨r, hr⟩ := first_exists l
    have HR := Lib.hid hr
    have HF := Lib.hid (first_any oa oc l r w2 hn HV.out (HO2.out.sl trc_len).1 hr)
    clear HCL ho2 hb2 hr
    go_wp2_with fail
    refine HF.out.mono ?_
    rintro e w3 ⟨ca, cc, rfl, hz3, ho3, hb3⟩
    have C3 := Lib.hid (bt C2.out hb3 (Nat.le_refl _))
    have HO3 := Lib.hid (HO2.out.below hb3)
    have HI3 := Lib.hid (ho3.lower' C2.out.size)
    have HZ3 := Lib.hid hz3
    clear HF ho3 hb3 hz3 HO2 C1 C2
    go_wp2_with fail
    go_loopw [5, 6, 7, 9, 11] (fun o c _ _ _ wr => ∃ (cur : List Tr) (cs : List Nat) (oa : Option Addr) (oc : Nat) (ca : Option Addr) (cc : Nat), o = .slice oa cur.length oc ∧ c = .slice ca cs.length cc ∧ cur.length ≤ 1000 ∧ Hid (cs = [] → ca = none) ∧ Hid (First cur cs) ∧ Hid (OwnL wr w.heap.size 31 4 trc (.slice oa cur.length oc) cur) ∧ Hid (OwnL wr w.heap.size 3 1 ic (.slice ca cs.length cc) (il cs)) ∧ Hid (Cmp cur out) ∧ Hid (vldB cur = true) ∧ Hid (Below w.heap.size w wr)) (fun o _ _ _ _ _ => slen o)
    case atStart => exact ⟨l, r, oa, oc, ca, cc, rfl, rfl, hn, HZ3, HR, HO3, HI3, HK, HV, C3⟩
    case round =>
      clear HO3 HK HV HZ3 HI3 HR C3 HA hn
      obtain ⟨cur, cs, oa, oc, ca, cc, rfl, rfl, hn, HZ, HR, HO, HI, HK, HV, HB⟩ := hrel
      cases cs with
      | nil =>
        have hz : ca = none := HZ.out rfl
        subst hz
        have HE := Lib.hid (show cur = out by
          rcases cmp_cases HK.out with ⟨_, he⟩ | ⟨x, r, h, _⟩
          · exact he
          · exact absurd (HR.out.uniq h) (by simp))
        clear HZ
        simp only [List.length_nil]
        go_wp2_with fail
        go_ret2
        rw [← HE.out]
        exact ⟨oa, oc, rfl, HO.out, HB.out⟩
      | cons x r =>
        have HY := Lib.hid (cyc_first HV.out HR.out)
        have HKK := Lib.hid (show Cmp (torn cur (x :: r)) out by
          rcases cmp_cases HK.out with ⟨h, _⟩ | ⟨x', r', h, k⟩
          · exact absurd (HR.out.uniq h) (by simp)
          · rw [HR.out.uniq h]; exact k)
        have HV2 := Lib.hid (torn_vld HV.out HY.out)
        have HL2 := Lib.hid (torn_less HV.out HY.out)
        have hcl := Nat.le_trans (cyc_len HY.out) hn
        clear HZ HR HK
        generalize x :: r = cs at *
        have h2 := HY.out.two
        have h20 : (0 : Int) < cs.length := by omega
        obtain ⟨cb, co, rfl, _⟩ := at_int (HI.out.sl ic_len).1 0 (by rw [il_len]; omega)
        obtain ⟨g, _, hga, _⟩ := HO.out.row (by have := HY.out.lt 0 (by omega); omega)
        subst hga
        have HCI := Lib.hid (show ∀ (wx : World), OwnL wx w.heap.size 3 1 ic (.slice (some ⟨cb, co, none⟩) cs.length cc) (il cs) → ∀ j, j < cs.length → wx.cell? ⟨cb, co + j, none⟩ = some (.int .i64 (tn cs j : Int)) from fun wx hx j hj => (by
          have := at_int' (hx.sl ic_len).1 j (by rw [il_len]; exact hj)
          rw [this]
          unfold il tn
          rw [List.getD_eq_getElem?_getD, List.getElem?_map, List.getD_eq_getElem?_getD, List.getElem?_eq_getElem hj]
          rfl))
        have HCO := Lib.hid (show ∀ (wx : World) (xs : List Tr), OwnL wx w.heap.size 31 4 trc (.slice (some ⟨g, 0, none⟩) cur.length oc) xs → ∀ j, j < xs.length → wx.cell? ⟨g, j * 4 + 3, none⟩ = some (.int .i64 (gt xs j).amt) from fun wx xs hx j hj => (by
          have := (at_tr' (hx.sl trc_len).1 j hj).2.2.2
          rwa [Nat.zero_add] at this))
        have y0 := HCI.out wr HI.out 0 (by omega)
        have y1 := HCO.out wr cur HO.out (tn cs 0) (HY.out.lt 0 (by omega))
        have hlt0 := HY.out.lt 0 (by omega)
        have hi0 : (tn cs 0 : Int) < cur.length := by omega
        have hi1 : (0 : Int) ≤ (tn cs 0 : Int) := by omega
        rw [Nat.add_zero] at y0
        have HA0 := Lib.hid (lst_at0 HV.out HY.out)
        have HLS := Lib.hid (fun k hk => lst_succ cur cs k hk)
        have HLE := Lib.hid (lst_end HY.out)
        have HAM := Lib.hid (fun j hj => (okT_at HV.out _ (HY.out.lt j hj)).2.2.2.2)
        go_wp2_with fail
        go_loopw [7, 9, 34] (fun le _ k wx => ∃ K : Nat, K ≤ cs.length ∧ k = .int .i64 K ∧ (∃ v : Int, le = .int .i64 v ∧ v = min (gt cur (tn cs 0)).amt (lst cur cs K)) ∧ wx = wr) (fun _ _ k _ => cs.length - (intOf k).toNat)
        case atStart => exact ⟨0, by omega, rfl, ⟨_, rfl, HA0.out.symm⟩, rfl⟩
        case round =>
          obtain ⟨K, hK, rfl, ⟨v, rfl, hv⟩, hw⟩ := hrel
          subst hw
          rcases Nat.lt_or_ge K cs.length with hkl | hge
          · have hki : (K : Int) < cs.length := by omega
            have hk0 : (0 : Int) ≤ (K : Int) := by omega
            have z0 := HCI.out _ HI.out K hkl
            have z1 := HCO.out _ cur HO.out (tn cs K) (HY.out.lt K hkl)
            have hj0 : (tn cs K : Int) < cur.length := by have := HY.out.lt K hkl; omega
            have hj1 : (0 : Int) ≤ (tn cs K : Int) := by omega
            have HVV := Lib.hid (show min v (gt cur (tn cs K)).amt = min (gt cur (tn cs 0)).amt (lst cur cs (K + 1)) by rw [HLS.out K hkl, hv]; omega)
            clear hv
            go_wp2_with fail
            go_roundw
            case rel => exact ⟨K + 1, by omega, by go_num, ⟨_, rfl, by rw [← HVV.out]; split <;> omega⟩, trivial⟩
            case measure => simp [intOf]; omega
          · obtain rfl : K = cs.length := by omega
            rw [HLE.out] at hv
            subst hv
            have HMM := Lib.hid (lst_range (l := cur) (cs := cs) (fun j hj => (HAM.out j hj).1) cs.length (Nat.le_refl _))
            have HML := Lib.hid (lst_le (l := cur) (cs := cs) cs.length (Nat.le_refl _))
            have HNZ := Lib.hid (nzl_cut HV.out HY.out)
            have HC0 := Lib.hid (cut_zero (l := cur) (cs := cs) (lst cur cs cs.length))
            have HCS := Lib.hid (fun k hk => cut_step HY.out (lst cur cs cs.length) k hk)
            generalize lst cur cs cs.length = m at *
            clear HA0 HLS HLE y0 y1
            go_wp2_with fail
            go_loopw [11, 48] (fun _ k wx => ∃ K : Nat, K ≤ cs.length ∧ k = .int .i64 K ∧ Hid (OwnL wx w.heap.size 31 4 trc (.slice (some ⟨g, 0, none⟩) cur.length oc) (cut cur cs m K)) ∧ Hid (OwnL wx w.heap.size 3 1 ic (.slice (some ⟨cb, co, none⟩) cs.length cc) (il cs)) ∧ Hid (Below w.heap.size w wx)) (fun _ k _ => cs.length - (intOf k).toNat)
            case atStart => exact ⟨0, by omega, rfl, by rw [HC0.out]; exact HO, HI, HB⟩
            case round =>
              clear HO HI HB HC0
              obtain ⟨K, hK, rfl, HO, HI, HB⟩ := hrel
              rcases Nat.lt_or_ge K cs.length with hkl | hge
              · have hki : (K : Int) < cs.length := by omega
                have hk0 : (0 : Int) ≤ (K : Int) := by omega
                have htl := HY.out.lt K hkl
                have z0 := HCI.out _ HI.out K hkl
                have z1 := HCO.out _ _ HO.out (tn cs K) (by rw [cut_len]; exact htl)
                rw [(HCS.out K hkl).1] at z1
                have hj0 : (tn cs K : Int) < cur.length := by omega
                have hj1 : (0 : Int) ≤ (tn cs K : Int) := by omega
                have hOc : OwnL wr w.heap.size 31 4 trc (.slice (some ⟨g, 0, none⟩) (cut cur cs m K).length oc) (cut cur cs m K) := by rw [cut_len]; exact HO.out
                have hcap := (hOc.sl trc_len).2.2
                rw [cut_len] at hcap
                have fz := (hOc.there (tn cs K * 4 + 3) (by have : (tn cs K + 1) * 4 ≤ oc * 4 := Nat.mul_le_mul_right _ (by omega); omega)).2
                have HWR := Lib.hid (own_setAmt hOc (i := tn cs K) (by rw [cut_len]; exact htl) ((gt cur (tn cs K)).amt - m))
                have hm1 := HMM.out
                have hm2 := HML.out K hkl
                have hm3 := HAM.out K hkl
                have hgl := HO.out.lt g rfl
                have HGG := Lib.hid (own_neq_blk HO.out HI.out)
                have HWI := Lib.hid (HI.out.far (p := ⟨g, tn cs K * 4 + 3, none⟩) HGG.out (.int .i64 ((gt cur (tn cs K)).amt - m)))
                have HWB := Lib.hid (HB.out.setCell (p := ⟨g, tn cs K * 4 + 3, none⟩) hgl.1 (.int .i64 ((gt cur (tn cs K)).amt - m)))
                clear hOc hcap
                go_wp2_with fail
                go_roundw
                case rel => exact ⟨K + 1, by omega, by go_num, by rw [← (HCS.out K hkl).2]; have h := HWR.out; rw [cut_len] at h; exact h, HWI, HWB⟩
                case measure => simp [intOf]; omega
              · obtain rfl : K = cs.length := by omega
                have HDL := Lib.hid (delete_any g oc w.heap.size (cut cur cs m cs.length) wr (by rw [cut_len]; exact hn) (by rw [cut_len]; exact HO.out))
                rw [HNZ.out, cut_len] at HDL
                have hgl := HO.out.lt g rfl
                clear HCS HML HAM HO HCI HCO
                go_wp2_with fail
                refine HDL.out.mono ?_
                rintro e w5 ⟨rfl, ho5, hg5⟩
                have HO5 := Lib.hid ho5
                have C5 := Lib.hid (HB.out.grown hg5 HB.out.size (fun r e => by have e2 : g = r := Option.some.inj e; omega))
                obtain ⟨r2, hr2⟩ := first_exists (torn cur cs)
                have hl2 := HL2.out
                have HR2 := Lib.hid hr2
                have HF := Lib.hid (first_any (some ⟨g, 0, none⟩) oc (torn cur cs) r2 w5 (by omega) HV2.out (HO5.out.sl trc_len).1 hr2)
                clear HDL ho5 hg5 hr2
                go_wp2_with fail
                refine HF.out.mono ?_
                rintro e w6 ⟨ca6, cc6, rfl, hz6, ho6, hb6⟩
                have C6 := Lib.hid (bt C5.out hb6 (Nat.le_refl _))
                have HO6 := Lib.hid (HO5.out.below hb6)
                have HI6 := Lib.hid (ho6.lower' C5.out.size)
                have HZ6 := Lib.hid hz6
                clear HF ho6 hb6 hz6
                go_wp2_with fail
                go_roundw
                case rel => exact ⟨torn cur cs, r2, some ⟨g, 0, none⟩, oc, ca6, cc6, rfl, rfl, by omega, HZ6, HR2, HO6, HI6, HKK, HV2, C6⟩
                case measure => show (torn cur cs).length < cur.length; omega
end Go.Proofs.Ytpphiohppgphnaa.Cs
