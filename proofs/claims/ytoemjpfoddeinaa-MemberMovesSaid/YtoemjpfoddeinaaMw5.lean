/-
  Member: the walk of MemberMoves.
-/
import Derived.Test.YtoemjpfoddeinaaMbU
import Derived.Test.YtoemjpfoddeinaaMbV
import Derived.Test.YtoemjpfoddeinaaMwR
namespace Go.Proofs.Ytoemjpfoddeinaa.Mb
open Go.RowKit Go.Proofs.Ytoemjpfoddeinaa Go.Proofs.Ytoemjpfoddeinaa.Ls Go.Proofs.Ytoemjpfoddeinaa.Kb
open Go.Proofs.Ytoemjpfoddeinaa.Nm hiding ret_bool ret_int

theorem uS_takeB {m : Me} (hv : val m = true) (k : Nat) : -18014398509481984 ≤ uS (m.ac.take k) ∧ uS (m.ac.take k) ≤ 18014398509481984 := by
  have h := uS_bound (m.ac.take k) (fun y hy => used_b hv y (List.mem_of_mem_take hy))
  have h2 : (m.ac.take k).length ≤ 16 := by rw [List.length_take]; have := (val_parts hv).2.1; omega
  omega
theorem chg_len {ms ms' : List Me} {t : ByteArray} {f : Me → Me × Int} {er : Int} (h : chgF ms t f = (ms', er)) (hn : ∀ m, (f m).1.nm = m.nm) : ms'.length ≤ 64 ∧ OkMs ms' := by
  by_cases he : er = 0
  · subst he
    obtain ⟨hc, L, m, R, rfl, hm, hL, hR, _, hv, rfl⟩ := chg_in h
    obtain ⟨hp, hv2, hl, _, _⟩ := chk_del hc
    have := chk_put hL hR (by rw [hn]; exact hm) hp hv2 hv hl
    exact ⟨((chk_iff _).1 this).1, chk_okms this⟩
  · have := chg_ne (ms := ms) (t := t) f (by rw [h]; exact he)
    rw [h] at this
    have h2 : ms' = [] := this
    subst h2
    exact ⟨by simp, fun m hm => by cases hm⟩

set_option maxRecDepth 100000 in
set_option maxHeartbeats 8000000 in
theorem moves_walk {W : World} (a : Option Addr) (c : Nat) (xs : List P) (hz : ∀ x ∈ xs, RawM x.1) (hx : xs.length ≤ maxLen) (hA : AtM W a xs) (nm : ByteArray) (_hnm : nm.size ≤ maxLen) (fr : ByteArray) (_hfr : fr.size ≤ maxLen) (tt : ByteArray) (_htt : tt.size ≤ maxLen) (am : Int) (hwf : (Lit.int .i64 am).wf = true) :
    Calls Try.prog 5 #[.agg #[.slice a xs.length c], .string nm, .string fr, .string tt, .int .i64 am] W fun e w' => e = .returned (.bool true) ∧ Below W.heap.size W w' := by
  have HAM := Lib.hid (wf64 hwf)
  clear hwf
  have hb0 : Below W.heap.size W (W.alloc (.cells #[.slice a xs.length c] 24)) := (Below.refl _ _).alloc (Nat.le_refl _) _
  have HX := Lib.hid (blk_new W (.cells #[.slice a xs.length c] 24))
  have HA := Lib.hid hA
  have HZ := Lib.hid hz
  clear hA hz
  go_enter Try.func5, Try.ntmps5
  go_wp2_with fail
  generalize W.alloc _ = w0 at hb0 HX ⊢
  refine (alive_any w0).mono ?_
  rintro e w1 ⟨rfl, hb⟩
  have S1 := Lib.hid (blk_keep HX.out hb)
  have B1 := Lib.hid (bt hb0 hb (Nat.le_refl _))
  have ld := cell_of S1.out 0 _ rfl
  clear hb0 HX hb
  go_wp2_with fail
  clear ld
  refine (great_any a c xs w1 hx (HA.out.below B1.out)).mono ?_
  rintro e w2 ⟨rfl, hb⟩
  have S2 := Lib.hid (blk_keep S1.out hb)
  have B2 := Lib.hid (bt B1.out hb (Nat.le_refl _))
  clear S1 B1 hb
  rcases Kb.hb (grB xs) with hg | hg
  case inl =>
    rw [hg]
    go_wp2_with fail
    go_ret
    exact ⟨rfl, B2.out⟩
  rw [hg]
  obtain ⟨hn80, hac⟩ := gr_small hg
  have HOK := Lib.hid (show OkMs (fst xs) from fun m hm => by
    obtain ⟨x, hx, rfl⟩ := List.mem_map.1 hm
    exact (HZ.out x hx).ok (by have := hac x hx; omega))
  have HST := Lib.hid (show St w2 a (fst xs) from ⟨xs, rfl, HA.out.below B2.out⟩)
  have HLN := Lib.hid (show ∀ m ∈ fst xs, m.ac.length ≤ 1000 from fun m hm => (HOK.out m hm).len)
  obtain ⟨n, hn⟩ : ∃ n, n = xs.length := ⟨_, rfl⟩
  have HN := Lib.hid (show (fst xs).length = n by rw [fst_len, hn])
  rw [← hn] at S2 hn80 ⊢
  obtain ⟨ms, hms⟩ : ∃ ms, ms = fst xs := ⟨_, rfl⟩
  rw [← hms] at HOK HST HLN HN
  clear hg hac HA HZ hx hn hms
  obtain ⟨mt, hmt⟩ : ∃ m, m = (chgF ms nm (fMove fr tt am)).1 := ⟨_, rfl⟩
  obtain ⟨er, her⟩ : ∃ e, e = (chgF ms nm (fMove fr tt am)).2 := ⟨_, rfl⟩
  have HCF := Lib.hid (show chgF ms nm (fMove fr tt am) = (mt, er) by rw [hmt, her])
  obtain ⟨nt, hnt⟩ : ∃ n', n' = mt.length := ⟨_, rfl⟩
  have HNT := Lib.hid hnt.symm
  have hnt1 : nt ≤ 64 := by have := (chg_len HCF.out (fMove_nm fr tt am)).1; omega
  obtain ⟨km, hkm⟩ : ∃ k, k = IntKind.i64.wrap (-am) := ⟨_, rfl⟩
  obtain ⟨mu, hmu⟩ : ∃ m, m = (chgF ms nm (fUse fr km)).1 := ⟨_, rfl⟩
  obtain ⟨ef, hef⟩ : ∃ e, e = (chgF ms nm (fUse fr km)).2 := ⟨_, rfl⟩
  have HCU := Lib.hid (show chgF ms nm (fUse fr km) = (mu, ef) by rw [hmu, hef])
  obtain ⟨nu, hnu⟩ : ∃ n', n' = mu.length := ⟨_, rfl⟩
  have HNU := Lib.hid hnu.symm
  have hnu1 : nu ≤ 64 := by have := (chg_len HCU.out (fUse_nm fr km)).1; omega
  have HOKU := Lib.hid (chg_len HCU.out (fUse_nm fr km)).2
  obtain ⟨mv, hmv⟩ : ∃ m, m = (chgF mu nm (fUse tt am)).1 := ⟨_, rfl⟩
  obtain ⟨eg, heg⟩ : ∃ e, e = (chgF mu nm (fUse tt am)).2 := ⟨_, rfl⟩
  have HCV := Lib.hid (show chgF mu nm (fUse tt am) = (mv, eg) by rw [hmv, heg])
  obtain ⟨nv, hnv⟩ : ∃ n', n' = mv.length := ⟨_, rfl⟩
  have HNV := Lib.hid hnv.symm
  have hnv1 : nv ≤ 64 := by have := (chg_len HCV.out (fUse_nm tt am)).1; omega
  have HKM := Lib.hid hkm
  have HKI := Lib.hid (show i64 km by rw [hkm]; exact wrap_i64 _)
  have HLT := Lib.hid (show ∀ m ∈ mt, m.ac.length ≤ 1000 from fun m hm => ((chg_len HCF.out (fMove_nm fr tt am)).2 m hm).len)
  have HTWO := Lib.hid (show ef = 0 → eg = 0 → fr ≠ tt → er = 0 ∧ mt = mv from fun h1 h2 h3 => by
    have e1 := HCU.out
    have e2 := HCV.out
    rw [h1] at e1
    rw [h2] at e2
    have hk := neg_wrap HAM.out (by rw [← hkm]; exact use_sig e1)
    rw [hkm, hk] at e1
    have := moves_two e1 e2 h3
    rw [HCF.out] at this
    injection this with t1 t2
    exact ⟨t2, t1⟩)
  have hkw : IntKind.i64.wrap (-am) = km := hkm.symm
  clear hmt her hnt hmu hef hnu hmv heg hnv hkm HKM
  have ld := cell_of S2.out 0 _ rfl
  go_wp2_with fail
  clear ld
  refine (s_twin a c n ms w2 HN.out (by omega) HLN.out HST.out).mono ?_
  rintro e v3 ⟨at1, ct1, rfl, hT, hb⟩
  have hb0 := hb
  have B3 := Lib.hid (bt B2.out hb (Nat.le_refl _))
  have S_3 := Lib.hid (blk_keep S2.out hb)
  have hs_3 := Lib.hid (HST.out.below hb)
  have hq_3 := Lib.hid (hT.st)
  clear hb hb0 B2 S2 HST hT
  go_wp2_with fail
  refine (s_move at1 ct1 n ms nm fr tt am mt nt er v3 HCF.out HN.out HNT.out (by omega) HOK.out hq_3.out).mono ?_
  rintro e v4 ⟨a4, c4, rfl, hT, hb⟩
  have hb0 := hb
  have hal : Below v4.heap.size v4 (v4.alloc (.cells #[.slice a4 nt c4] 24)) := (Below.refl _ _).alloc (Nat.le_refl _) _
  have hnw := blk_new v4 (.cells #[.slice a4 nt c4] 24)
  obtain ⟨XT, hX⟩ : ∃ X, X = v4.heap.size := ⟨_, rfl⟩
  have B4 := Lib.hid (bt (bt B3.out hb (Nat.le_refl _)) hal (Nat.le_refl _))
  have S_4 := Lib.hid (blk_keep (blk_keep S_3.out hb) hal)
  have hs_4 := Lib.hid ((hs_3.out.below hb).below hal)
  have hq_4 := Lib.hid ((hq_3.out.below hb).below hal)
  have ht_4 := Lib.hid ((hT).below hal)
  rw [← hX] at hnw
  have T_4 := Lib.hid hnw
  clear hb hb0 B3 S_3 hs_3 hq_3 hT
  go_upto_region 5 with fail
  rw [← hX]
  clear hX
  clear hal hnw
  generalize v4.alloc _ = w4 at B4 S_4 hs_4 hq_4 ht_4 T_4 ⊢
  clear hq_4
  by_cases her0 : er = 0
  case neg =>
    have her1 : (er == 0) = false := by simpa using her0
    have ld := cell_of S_4.out 0 _ rfl
    go_wp2_with fail
    clear ld
    refine (s_twin a c n ms w4 HN.out (by omega) HLN.out hs_4.out).mono ?_
    rintro e v5 ⟨at2, ct2, rfl, hT, hb⟩
    have hb0 := hb
    have B5 := Lib.hid (bt B4.out hb (Nat.le_refl _))
    have S_5 := Lib.hid (blk_keep S_4.out hb)
    have hs_5 := Lib.hid (hs_4.out.below hb)
    have ht_5 := Lib.hid (ht_4.out.below hb)
    have T_5 := Lib.hid (blk_keep T_4.out hb)
    have hq_5 := Lib.hid (hT.st)
    clear hb hb0 B4 S_4 hs_4 ht_4 T_4 hT
    go_wp2_with fail
    refine (s_use at2 ct2 n ms nm fr km mu nu ef v5 HCU.out HN.out HNU.out (by omega) HKI.out HOK.out hq_5.out).mono ?_
    rintro e v7 ⟨a5, c5, rfl, hT, hb⟩
    have hal : Below v7.heap.size v7 (v7.alloc (.cells #[.slice a5 nu c5] 24)) := (Below.refl _ _).alloc (Nat.le_refl _) _
    have hnw := blk_new v7 (.cells #[.slice a5 nu c5] 24)
    obtain ⟨XU, hX⟩ : ∃ X, X = v7.heap.size := ⟨_, rfl⟩
    have B6 := Lib.hid (bt (bt B5.out hb (Nat.le_refl _)) hal (Nat.le_refl _))
    have S_6 := Lib.hid (blk_keep (blk_keep S_5.out hb) hal)
    have hs_6 := Lib.hid ((hs_5.out.below hb).below hal)
    have ht_6 := Lib.hid ((ht_5.out.below hb).below hal)
    have T_6 := Lib.hid (blk_keep (blk_keep T_5.out hb) hal)
    have hq_6 := Lib.hid ((hq_5.out.below hb).below hal)
    have hu_7 := Lib.hid (hT.st.below hal)
    have hWU : W.heap.size ≤ v7.heap.size := (bt B5.out hb (Nat.le_refl _)).size
    have hTU := blk_lt (blk_keep T_5.out hb)
    rw [← hX] at hnw hWU hTU
    have U_7 := Lib.hid hnw
    clear hb hnw hT hal B5 S_5 hs_5 ht_5 T_5 hq_5
    by_cases hef : ef = 0
    case neg =>
      have hef' : (ef != 0) = true := by simpa using hef
      go_wp2_with fail
      generalize v7.alloc _ = w7 at B6 ⊢
      go_ret
      exact ⟨rfl, B6.out⟩
    have hef' : (ef != 0) = false := by simpa using hef
    by_cases hft : fr = tt
    case pos =>
      have he := eq_yes hft
      have HFT := Lib.hid hft
      clear hft hef
      go_wp2_with fail
      generalize v7.alloc _ = w7 at B6 ⊢
      go_ret
      exact ⟨rfl, B6.out⟩
    have he := eq_no hft
    have HEF := Lib.hid hef
    clear hef
    go_wp2_with fail
    rw [← hX]
    clear hX
    generalize v7.alloc _ = w7 at B6 S_6 hs_6 ht_6 T_6 hq_6 U_7 hu_7 ⊢
    refine (s_use a5 c5 nu mu nm tt am mv nv eg w7 HCV.out HNU.out HNV.out (by omega) HAM.out HOKU.out hu_7.out).mono ?_
    rintro e v8 ⟨a6, c6, rfl, hT, hb⟩
    clear hq_6
    clear hu_7
    have B7 := Lib.hid (bt B6.out hb (Nat.le_refl _))
    have S_7 := Lib.hid (blk_keep S_6.out hb)
    have hs_7 := Lib.hid (hs_6.out.below hb)
    have ht_7 := Lib.hid (ht_6.out.below hb)
    have T_7 := Lib.hid (blk_keep T_6.out hb)
    have U_7 := Lib.hid (blk_keep U_7.out hb)
    have hv_8 := Lib.hid hT
    have u0 := cell_of U_7.out 0 _ rfl
    have uf := frozen_of U_7.out 0
    have t0 := cell_of T_7.out 0 _ rfl
    have hne : XT ≠ XU := by omega
    have U9 := Lib.hid (set1 U_7.out (.slice a6 nv c6))
    have T9 := Lib.hid (set_other (i := 0) T_7.out (show XU ≠ XT by omega) (.slice a6 nv c6))
    have B9 := Lib.hid (B7.out.setCell (p := ⟨XU, 0, none⟩) hWU (.slice a6 nv c6))
    have hv9 := Lib.hid (hT.far (i := 0) U_7.out (.slice a6 nv c6)).st
    clear hb hT B6 S_6 hs_6 ht_6 T_6 U_7
    by_cases heg : eg = 0
    case neg =>
      have heg' : (eg != 0) = true := by simpa using heg
      go_wp2_with fail
      generalize v8.setCell _ _ = w9 at B9 ⊢
      go_ret
      exact ⟨rfl, B9.out⟩
    obtain ⟨h1, h2⟩ := HTWO.out HEF.out heg hft
    exact absurd h1 her0
  subst her0
  obtain ⟨m, u, hm, hu, husum, hvm, hvu⟩ := moves_sum HCF.out
  have HFM := Lib.hid hm
  have HFU := Lib.hid hu
  have HVM := Lib.hid hvm
  have HVU := Lib.hid hvu
  have HSUM := Lib.hid husum
  have hlm : m.ac.length ≤ 16 := (val_parts hvm).2.1
  have hlu : u.ac.length ≤ 16 := (val_parts hvu).2.1
  clear hm hu husum hvm hvu
  have ld := cell_of S_4.out 0 _ rfl
  go_wp2_with fail
  clear ld
  refine (s_rfind a c n ms nm m m.ac.length true w4 HFM.out HN.out rfl (by omega) hs_4.out).mono ?_
  rintro e v5 ⟨am1, cm1, rfl, hA1, hb⟩
  have hb0 := hb
  have ld0 := cell_of (blk_keep T_4.out hb) 0 _ rfl
  have ll0 := blk_lt (blk_keep T_4.out hb)
  have hal : Below v5.heap.size v5 (v5.alloc (.cells #[.string m.nm, .int .u8 m.ro, .bool m.su, .int .i64 m.lim, .slice am1 m.ac.length cm1] 30)) := (Below.refl _ _).alloc (Nat.le_refl _) _
  have hnw := blk_new v5 (.cells #[.string m.nm, .int .u8 m.ro, .bool m.su, .int .i64 m.lim, .slice am1 m.ac.length cm1] 30)
  obtain ⟨XM, hX⟩ : ∃ X, X = v5.heap.size := ⟨_, rfl⟩
  have B5 := Lib.hid (bt (bt B4.out hb (Nat.le_refl _)) hal (Nat.le_refl _))
  have S_5 := Lib.hid (blk_keep (blk_keep S_4.out hb) hal)
  have hs_5 := Lib.hid ((hs_4.out.below hb).below hal)
  have ht_5 := Lib.hid ((ht_4.out.below hb).below hal)
  have T_5 := Lib.hid (blk_keep (blk_keep T_4.out hb) hal)
  have ha_5 := Lib.hid ((hA1).below hal)
  rw [← hX] at hnw
  have M_5 := Lib.hid hnw
  clear hb hb0 B4 S_4 hs_4 ht_4 T_4 hA1
  go_wp2_with fail
  clear ld0 ll0
  rw [← hX]
  clear hX
  clear hal hnw
  generalize v5.alloc _ = w5 at B5 S_5 hs_5 ht_5 T_5 ha_5 M_5 ⊢
  refine (s_rfind a4 c4 nt mt nm u u.ac.length true w5 HFU.out HNT.out rfl (by omega) ht_5.out.st).mono ?_
  rintro e v6 ⟨am2, cm2, rfl, hA2, hb⟩
  have hb0 := hb
  have hal : Below v6.heap.size v6 (v6.alloc (.cells #[.string u.nm, .int .u8 u.ro, .bool u.su, .int .i64 u.lim, .slice am2 u.ac.length cm2] 30)) := (Below.refl _ _).alloc (Nat.le_refl _) _
  have hnw := blk_new v6 (.cells #[.string u.nm, .int .u8 u.ro, .bool u.su, .int .i64 u.lim, .slice am2 u.ac.length cm2] 30)
  obtain ⟨XN, hX⟩ : ∃ X, X = v6.heap.size := ⟨_, rfl⟩
  have B6 := Lib.hid (bt (bt B5.out hb (Nat.le_refl _)) hal (Nat.le_refl _))
  have S_6 := Lib.hid (blk_keep (blk_keep S_5.out hb) hal)
  have hs_6 := Lib.hid ((hs_5.out.below hb).below hal)
  have ht_6 := Lib.hid ((ht_5.out.below hb).below hal)
  have T_6 := Lib.hid (blk_keep (blk_keep T_5.out hb) hal)
  have ha_6 := Lib.hid ((ha_5.out.below hb).below hal)
  have M_6 := Lib.hid (blk_keep (blk_keep M_5.out hb) hal)
  have hc_6 := Lib.hid ((hA2).below hal)
  rw [← hX] at hnw
  have N_6 := Lib.hid hnw
  clear hb hb0 B5 S_5 hs_5 ht_5 T_5 ha_5 M_5 hA2
  go_wp2_with fail
  rw [← hX]
  clear hX
  clear hal hnw
  generalize v6.alloc _ = w6 at B6 S_6 hs_6 ht_6 T_6 ha_6 M_6 hc_6 N_6 ⊢
  have HA_ := ha_6
  go_loopw [18, 19] (fun s i wq => ∃ k : Nat, k ≤ m.ac.length ∧ i = .int .i64 k ∧ s = .int .i64 (uS (m.ac.take k)) ∧ wq = w6) (fun _ i _ => m.ac.length - (intOf i).toNat)
  case atStart => exact ⟨0, by omega, rfl, by simp [uS], rfl⟩
  case round =>
    obtain ⟨k, hk, rfl, rfl, rfl⟩ := hrel
    have x4 := cell_of M_6.out 4 _ rfl
    by_cases hlt : k < m.ac.length
    · obtain ⟨b, off, rfl, q0, q1, q2, q3⟩ := at_a ha_6.out k hlt
      have k0 : (0 : Int) ≤ k := by omega
      have k1 : (k : Int) < m.ac.length := by omega
      have hs := uS_take m.ac k hlt
      have e1 := uS_takeB HVM.out k
      have e2 := uS_takeB HVM.out (k + 1)
      
      generalize uS (m.ac.take k) = S0 at *
      generalize ga m.ac k = y at *
      
      have HS := Lib.hid hs
      have hw : IntKind.i64.wrap (S0 + y.us) = S0 + y.us := IntWalk.i64_in _ (by omega)
      clear hs e1 e2
      go_wp2_with fail
      go_roundw
      case rel => exact ⟨k + 1, by omega, by go_num, by rw [HS.out], by first | rfl | trivial⟩
      case measure => simp [intOf]; omega
    · obtain rfl : k = m.ac.length := by omega
      have k1 : ¬ (m.ac.length : Int) < m.ac.length := by omega
      rw [List.take_of_length_le (Nat.le_refl _)]
      have HSM := Lib.hid (show -18014398509481984 ≤ uS m.ac ∧ uS m.ac ≤ 18014398509481984 by have := uS_takeB HVM.out m.ac.length; rw [List.take_of_length_le (Nat.le_refl _)] at this; exact this)
      obtain ⟨SM, hSM⟩ : ∃ S, S = uS m.ac := ⟨_, rfl⟩
      rw [← hSM] at HSM HSUM ⊢
      clear hSM
      go_wp2_with fail
      clear x4
      go_loopw [18, 20] (fun s i wq => ∃ k : Nat, k ≤ u.ac.length ∧ i = .int .i64 k ∧ s = .int .i64 (SM - uS (u.ac.take k)) ∧ wq = wr) (fun _ i _ => u.ac.length - (intOf i).toNat)
      case atStart => exact ⟨0, by omega, rfl, by simp [uS], rfl⟩
      case round =>
        obtain ⟨k, hk, rfl, rfl, rfl⟩ := hrel
        have x4 := cell_of N_6.out 4 _ rfl
        by_cases hlt : k < u.ac.length
        · obtain ⟨b, off, rfl, q0, q1, q2, q3⟩ := at_a hc_6.out k hlt
          have k0 : (0 : Int) ≤ k := by omega
          have k1 : (k : Int) < u.ac.length := by omega
          have hs := uS_take u.ac k hlt
          have e1 := uS_takeB HVU.out k
          have e2 := uS_takeB HVU.out (k + 1)
          have e3 := HSM.out
          generalize uS (u.ac.take k) = S0 at *
          generalize ga u.ac k = y at *
          
          have HS := Lib.hid hs
          have hw : IntKind.i64.wrap (SM - S0 - y.us) = SM - S0 - y.us := IntWalk.i64_in _ (by omega)
          clear hs e1 e2
          go_wp2_with fail
          go_roundw
          case rel => exact ⟨k + 1, by omega, by go_num, by rw [HS.out]; congr 1; omega, by first | rfl | trivial⟩
          case measure => simp [intOf]; omega
        · obtain rfl : k = u.ac.length := by omega
          have k1 : ¬ (u.ac.length : Int) < u.ac.length := by omega
          rw [List.take_of_length_le (Nat.le_refl _), ← HSUM.out]
          have hz : ((SM - SM : Int) != 0) = false := by simp
          have ld := cell_of S_6.out 0 _ rfl
          go_wp2_with fail
          clear ld x4
          clear M_6
          clear ha_6
          clear N_6
          clear hc_6
          refine (s_twin a c n ms _ HN.out (by omega) HLN.out hs_6.out).mono ?_
          rintro e v7 ⟨at2, ct2, rfl, hT, hb⟩
          have hb0 := hb
          have B7 := Lib.hid (bt B6.out hb (Nat.le_refl _))
          have S_7 := Lib.hid (blk_keep S_6.out hb)
          have hs_7 := Lib.hid (hs_6.out.below hb)
          have ht_7 := Lib.hid (ht_6.out.below hb)
          have T_7 := Lib.hid (blk_keep T_6.out hb)
          have hq_7 := Lib.hid (hT.st)
          clear hb hb0 B6 S_6 hs_6 ht_6 T_6 hT
          go_wp2_with fail
          refine (s_use at2 ct2 n ms nm fr km mu nu ef v7 HCU.out HN.out HNU.out (by omega) HKI.out HOK.out hq_7.out).mono ?_
          rintro e v7 ⟨a5, c5, rfl, hT, hb⟩
          have hal : Below v7.heap.size v7 (v7.alloc (.cells #[.slice a5 nu c5] 24)) := (Below.refl _ _).alloc (Nat.le_refl _) _
          have hnw := blk_new v7 (.cells #[.slice a5 nu c5] 24)
          obtain ⟨XU, hX⟩ : ∃ X, X = v7.heap.size := ⟨_, rfl⟩
          have B8 := Lib.hid (bt (bt B7.out hb (Nat.le_refl _)) hal (Nat.le_refl _))
          have S_8 := Lib.hid (blk_keep (blk_keep S_7.out hb) hal)
          have hs_8 := Lib.hid ((hs_7.out.below hb).below hal)
          have ht_8 := Lib.hid ((ht_7.out.below hb).below hal)
          have T_8 := Lib.hid (blk_keep (blk_keep T_7.out hb) hal)
          have hq_8 := Lib.hid ((hq_7.out.below hb).below hal)
          have hu_7 := Lib.hid (hT.st.below hal)
          have hWU : W.heap.size ≤ v7.heap.size := (bt B7.out hb (Nat.le_refl _)).size
          have hTU := blk_lt (blk_keep T_7.out hb)
          rw [← hX] at hnw hWU hTU
          have U_7 := Lib.hid hnw
          clear hb hnw hT hal B7 S_7 hs_7 ht_7 T_7 hq_7
          by_cases hef : ef = 0
          case neg =>
            have hef' : (ef != 0) = true := by simpa using hef
            go_wp2_with fail
            generalize v7.alloc _ = w7 at B8 ⊢
            go_ret
            exact ⟨rfl, B8.out⟩
          have hef' : (ef != 0) = false := by simpa using hef
          by_cases hft : fr = tt
          case pos =>
            have he := eq_yes hft
            have HFT := Lib.hid hft
            clear hft hef
            go_wp2_with fail
            generalize v7.alloc _ = w7 at B8 ⊢
            go_ret
            exact ⟨rfl, B8.out⟩
          have he := eq_no hft
          have HEF := Lib.hid hef
          clear hef
          go_wp2_with fail
          rw [← hX]
          clear hX
          generalize v7.alloc _ = w7 at B8 S_8 hs_8 ht_8 T_8 hq_8 U_7 hu_7 ⊢
          refine (s_use a5 c5 nu mu nm tt am mv nv eg w7 HCV.out HNU.out HNV.out (by omega) HAM.out HOKU.out hu_7.out).mono ?_
          rintro e v8 ⟨a6, c6, rfl, hT, hb⟩
          clear hq_8
          clear hu_7
          have B9 := Lib.hid (bt B8.out hb (Nat.le_refl _))
          have S_9 := Lib.hid (blk_keep S_8.out hb)
          have hs_9 := Lib.hid (hs_8.out.below hb)
          have ht_9 := Lib.hid (ht_8.out.below hb)
          have T_9 := Lib.hid (blk_keep T_8.out hb)
          have U_9 := Lib.hid (blk_keep U_7.out hb)
          have hv_8 := Lib.hid hT
          have u0 := cell_of U_9.out 0 _ rfl
          have uf := frozen_of U_9.out 0
          have t0 := cell_of T_9.out 0 _ rfl
          have hne : XT ≠ XU := by omega
          have U9 := Lib.hid (set1 U_9.out (.slice a6 nv c6))
          have T9 := Lib.hid (set_other (i := 0) T_9.out (show XU ≠ XT by omega) (.slice a6 nv c6))
          have B9 := Lib.hid (B9.out.setCell (p := ⟨XU, 0, none⟩) hWU (.slice a6 nv c6))
          have hv9 := Lib.hid (hT.far (i := 0) U_9.out (.slice a6 nv c6)).st
          clear hb hT B8 S_8 hs_8 ht_8 T_8 U_7
          by_cases heg : eg = 0
          case neg =>
            have heg' : (eg != 0) = true := by simpa using heg
            go_wp2_with fail
            generalize v8.setCell _ _ = w9 at B9 ⊢
            go_ret
            exact ⟨rfl, B9.out⟩
          obtain ⟨h1, h2⟩ := HTWO.out HEF.out heg hft
          have heg' : (eg != 0) = false := by simpa using heg
          have HT9 := Lib.hid (ht_9.out.far (i := 0) U_9.out (.slice a6 nv c6)).st
          have HMV := Lib.hid h2
          clear heg h1 h2
          go_wp2_with fail
          generalize v8.setCell _ _ = w9 at U9 T9 B9 hv9 HT9 ⊢
          refine (s_same a4 a6 c4 c6 nt nv mt mv true w9 (decide_eq_true HMV.out) HNT.out HNV.out (by omega) HLT.out HT9.out hv9.out).mono ?_
          rintro e w10 ⟨rfl, hb⟩
          have BZ := bt B9.out hb (Nat.le_refl _)
          go_wp2_with fail
          go_ret
          exact ⟨rfl, BZ⟩
end Go.Proofs.Ytoemjpfoddeinaa.Mb
