/-
  Member: Move of the reference.
-/
import Derived.Test.YtoemjpfoddeinaaMwH
namespace Go.Proofs.Ytoemjpfoddeinaa.Mb
open Go.RowKit Go.Proofs.Ytoemjpfoddeinaa Go.Proofs.Ytoemjpfoddeinaa.Ls Go.Proofs.Ytoemjpfoddeinaa.Kb
open Go.Proofs.Ytoemjpfoddeinaa.Nm hiding ret_bool ret_int

theorem s_rusedN (am : Option Addr) (cm nl : Nat) (m : Me) (x : Int) (w : World) (h : ex m.ac = x) (hl : m.ac.length ≤ 1000) (hU : ∀ y ∈ m.ac, -4503599627370496 ≤ y.us ∧ y.us ≤ 4503599627370496) (hA : AtL w 4 acc am m.ac) (hn : m.ac.length = nl) :
    Calls Try.prog 73 #[.agg #[.string m.nm, .int .u8 m.ro, .bool m.su, .int .i64 m.lim, .slice am nl cm]] w fun e w' => e = .returned (.int .i64 x) ∧ Below w.heap.size w w' := by
  subst hn
  exact s_rused am cm m x w h hl hU hA

set_option maxRecDepth 100000 in
set_option maxHeartbeats 8000000 in
theorem w_move (a : Option Addr) (c n : Nat) (ms : List Me) (t : ByteArray) (fr tt : ByteArray) (k : Int) (_hk : i64 k) (ms' : List Me) (n' : Nat) (er : Int) (w : World) (hr : chgF ms t (fMove fr tt k) = (ms', er)) (hn : ms.length = n) (hn' : ms'.length = n') (h0 : n ≤ 80) (hZ : OkMs ms) (hS : St w a ms) :
    Calls Try.prog 67 #[.agg #[.slice a n c], .string t, .string fr, .string tt, .int .i64 k] w (SW ms' n' er w) := by
  have hb0 := blk_twoB w (.cells #[.slice a n c] 24) (.cells #[.slice none 0 0] 24)
  have HS0 := Lib.hid hS
  have HX := Lib.hid (blk_two w (.cells #[.slice a n c] 24) (.cells #[.slice none 0 0] 24))
  have HS := Lib.hid hS
  have HN := Lib.hid hn
  have HN' := Lib.hid hn'
  have HZ := Lib.hid hZ
  have HR := Lib.hid hr
  have HLN := Lib.hid (show ∀ m ∈ ms, m.ac.length ≤ 1000 from fun m hm => (hZ m hm).len)
  obtain ⟨m0, hm0⟩ : ∃ m, m = (fsF ms t).1 := ⟨_, rfl⟩
  obtain ⟨e0, he0⟩ : ∃ e, e = (fsF ms t).2 := ⟨_, rfl⟩
  have HFS := Lib.hid (show fsF ms t = (m0, e0) by rw [hm0, he0])
  clear hS hn hn' hZ hr hm0 he0
  go_enter Try.func67, Try.ntmps67
  go_wp2_with fail
  have B0 := Lib.hid hb0
  have S_0 := Lib.hid HX.out.1
  have R_0 := Lib.hid HX.out.2
  have hs_0 := Lib.hid (HS.out.below hb0)
  clear hb0 HX HS
  generalize (w.alloc _).alloc _ = w0 at B0 S_0 R_0 hs_0 ⊢
  refine (s_first a c n ms t m0 e0 w0 HFS.out HN.out (by omega) HZ.out hs_0.out).mono ?_
  rintro e v1 ⟨am, cm, rfl, hO, hb⟩
  have hb0 := hb
  have HWO := Lib.hid (show w.heap.size + 1 + 1 ≤ w0.heap.size from blk_lt R_0.out)
  have hRlt := blk_lt (blk_keep R_0.out hb)
  have hal : Below v1.heap.size v1 (v1.alloc (.cells #[.string m0.nm, .int .u8 m0.ro, .bool m0.su, .int .i64 m0.lim, .slice am m0.ac.length cm] 30)) := (Below.refl _ _).alloc (Nat.le_refl _) _
  have hnw := blk_new v1 (.cells #[.string m0.nm, .int .u8 m0.ro, .bool m0.su, .int .i64 m0.lim, .slice am m0.ac.length cm] 30)
  obtain ⟨XM, hX⟩ : ∃ X, X = v1.heap.size := ⟨_, rfl⟩
  have B1 := Lib.hid (bt (bt B0.out hb (Nat.le_refl _)) hal (Nat.le_refl _))
  have S_1 := Lib.hid (blk_keep (blk_keep S_0.out hb) hal)
  have R_1 := Lib.hid (blk_keep (blk_keep R_0.out hb) hal)
  have hs_1 := Lib.hid ((hs_0.out.below hb).below hal)
  have ho_1 := Lib.hid ((hO).below hal)
  rw [← hX] at hnw
  have M_1 := Lib.hid hnw
  clear hb hb0 B0 S_0 R_0 hs_0 hO
  go_upto_region 2 with fail
  have HXM := Lib.hid (show w.heap.size + 1 < XM by rw [hX]; exact hRlt)
  clear hRlt
  rw [← hX]
  clear hX
  clear hal hnw
  generalize v1.alloc _ = w1 at B1 S_1 R_1 hs_1 ho_1 M_1 ⊢
  have HFF := Lib.hid (fs_facts HFS.out)
  obtain ⟨ai, hai⟩ : ∃ i, i = atF m0.ac fr := ⟨_, rfl⟩
  have Hai := Lib.hid hai.symm
  clear hai
  obtain ⟨bi, hbi⟩ : ∃ i, i = atF m0.ac tt := ⟨_, rfl⟩
  have Hbi := Lib.hid hbi.symm
  clear hbi
  have HAT1 := Lib.hid (fun wx (h : Below w1.heap.size w1 wx) => s_rat am cm m0 fr ai wx Hai.out HFF.out.1 HFF.out.2.1 ((ho_1.out.below h).sl acc_len).1)
  have HAT2 := Lib.hid (fun wx (h : Below w1.heap.size w1 wx) => s_rat am cm m0 tt bi wx Hbi.out HFF.out.1 HFF.out.2.1 ((ho_1.out.below h).sl acc_len).1)
  have HB := Lib.hid (show ∀ wx, Below w1.heap.size w1 wx → wx.cell? ⟨XM, 0, none⟩ = some (.string m0.nm) ∧ wx.cell? ⟨XM, 1, none⟩ = some (.int .u8 m0.ro) ∧ wx.cell? ⟨XM, 2, none⟩ = some (.bool m0.su) ∧ wx.cell? ⟨XM, 3, none⟩ = some (.int .i64 m0.lim) ∧ wx.cell? ⟨XM, 4, none⟩ = some (.slice am m0.ac.length cm) from fun wx h => by
    have q := blk_keep M_1.out h
    exact ⟨cell_of q 0 _ rfl, cell_of q 1 _ rfl, cell_of q 2 _ rfl, cell_of q 3 _ rfl, cell_of q 4 _ rfl⟩)
  have k0 : Below w1.heap.size w1 w1 := Below.refl _ _
  have kd := k0.drew
  obtain ⟨q0, q1, q2, q3, q4⟩ := HB.out _ k0
  go_region_held3 (fun wx => wx.cell? ⟨XM, 0, none⟩ = some (.string m0.nm) ∧ wx.cell? ⟨XM, 1, none⟩ = some (.int .u8 m0.ro) ∧ wx.cell? ⟨XM, 2, none⟩ = some (.bool m0.su) ∧ wx.cell? ⟨XM, 3, none⟩ = some (.int .i64 m0.lim) ∧ wx.cell? ⟨XM, 4, none⟩ = some (.slice am m0.ac.length cm))
    (first | with_reducible exact HB.out _ (by assumption) | with_reducible exact HB.out _ (Below.drew (by assumption)) | go_keep)
    (first | (go_at_call 91; with_reducible refine Calls.mono (HAT1.out _ (by first | assumption | exact Below.drew (by assumption))) ?_; rintro e w2 ⟨rfl, hb2⟩; have k2 : Below w1.heap.size w1 w2 := bt (by first | assumption | exact Below.drew (by assumption)) hb2 (Nat.le_refl _)) | (go_at_call 91; with_reducible refine Calls.mono (HAT2.out _ (by first | assumption | exact Below.drew (by assumption))) ?_; rintro e w2 ⟨rfl, hb2⟩; have k2 : Below w1.heap.size w1 w2 := bt (by first | assumption | exact Below.drew (by assumption)) hb2 (Nat.le_refl _)))
  have B2 := Lib.hid (bt B1.out k2 (Nat.le_refl _))
  have S_2 := Lib.hid (blk_keep S_1.out k2)
  have R_2 := Lib.hid (blk_keep R_1.out k2)
  have hs_2 := Lib.hid (hs_1.out.below k2)
  have ho_2 := Lib.hid (ho_1.out.below k2)
  have M_2 := Lib.hid (blk_keep M_1.out k2)
  clear B1 S_1 R_1 hs_1 ho_1 M_1 q0 q1 q2 q3 q4 k2 hb2 HAT1 HAT2 HB kd k0
  by_cases h1 : e0 = 0
  case neg =>
    have b1 : (e0 == 0) = false := by simpa using h1
    have b2 : (e0 != 0) = true := by simpa using h1
    have HE := Lib.hid (show ms' = [] ∧ n' = 0 ∧ er = e0 by
      have h := HR.out
      rw [chg_bad HFS.out h1] at h
      injection h with h1 h2
      exact ⟨h1.symm, by rw [← HN'.out, ← h1]; rfl, h2.symm⟩)
    clear h1
    have y0 := cell_of R_2.out 0 _ rfl
    have yf := frozen_of R_2.out 0
    go_wp2_with fail
    have h4 := set1 R_2.out (.slice none 0 0)
    have r0 := cell_of h4 0 _ rfl
    exact bodyPost_ret (v := .tuple #[.agg #[.slice none 0 0], .int .i64 e0]) (by simp [results, Try.results67, go_sem, r0]) rfl ⟨none, 0, by rw [HE.out.2.1, HE.out.2.2], by rw [HE.out.1]; exact st_nil _, B2.out.setCell (p := ⟨w.heap.size + 1, 0, none⟩) (Nat.le_succ _) _⟩
  subst h1
  by_cases hh : has (nas m0.ac) fr = true
  case neg =>
    obtain rfl : ai = -1 := Hai.out.symm.trans (at_none hh)
    have HE := Lib.hid (show ms' = [] ∧ n' = 0 ∧ er = 6 by
      have h := HR.out
      rw [chg_er (f := fMove fr tt k) (e := 6) HFS.out (by unfold fMove; rw [show has (nas m0.ac) fr = false by simpa using hh]; rfl) (by decide)] at h
      injection h with h1 h2
      exact ⟨h1.symm, by rw [← HN'.out, ← h1]; rfl, h2.symm⟩)
    clear hh
    have y0 := cell_of R_2.out 0 _ rfl
    have yf := frozen_of R_2.out 0
    go_wp2_with fail
    have h4 := set1 R_2.out (.slice none 0 0)
    have r0 := cell_of h4 0 _ rfl
    exact bodyPost_ret (v := .tuple #[.agg #[.slice none 0 0], .int .i64 6]) (by simp [results, Try.results67, go_sem, r0]) rfl ⟨none, 0, by rw [HE.out.2.1, HE.out.2.2], by rw [HE.out.1]; exact st_nil _, B2.out.setCell (p := ⟨w.heap.size + 1, 0, none⟩) (Nat.le_succ _) _⟩
  have hvm := (fs_ok HFS.out).2.choose_spec.choose_spec.2.2.2.2
  obtain ⟨J, hJ⟩ : ∃ J, J = pos (nas m0.ac) fr := ⟨_, rfl⟩
  obtain rfl : ai = (J : Int) := by rw [hJ]; exact Hai.out.symm.trans (at_has HFS.out hh)
  have hJl : J < m0.ac.length := by rw [hJ]; exact has_pos hvm hh
  have j0 : ¬ (J : Int) < 0 := by omega
  have j1 : (0 : Int) ≤ J := by omega
  have j2 : (J : Int) < m0.ac.length := by omega
  by_cases hg : has (nas m0.ac) tt = true
  case neg =>
    obtain rfl : bi = -1 := Hbi.out.symm.trans (at_none hg)
    have HE := Lib.hid (show ms' = [] ∧ n' = 0 ∧ er = 6 by
      have h := HR.out
      rw [chg_er (f := fMove fr tt k) (e := 6) HFS.out (by unfold fMove; rw [show has (nas m0.ac) tt = false by simpa using hg, Bool.and_false]; rfl) (by decide)] at h
      injection h with h1 h2
      exact ⟨h1.symm, by rw [← HN'.out, ← h1]; rfl, h2.symm⟩)
    clear hh hg hJ hvm
    have y0 := cell_of R_2.out 0 _ rfl
    have yf := frozen_of R_2.out 0
    go_wp2_with fail
    have h4 := set1 R_2.out (.slice none 0 0)
    have r0 := cell_of h4 0 _ rfl
    exact bodyPost_ret (v := .tuple #[.agg #[.slice none 0 0], .int .i64 6]) (by simp [results, Try.results67, go_sem, r0]) rfl ⟨none, 0, by rw [HE.out.2.1, HE.out.2.2], by rw [HE.out.1]; exact st_nil _, B2.out.setCell (p := ⟨w.heap.size + 1, 0, none⟩) (Nat.le_succ _) _⟩
  obtain ⟨K, hK⟩ : ∃ K, K = pos (nas m0.ac) tt := ⟨_, rfl⟩
  obtain rfl : bi = (K : Int) := by rw [hK]; exact Hbi.out.symm.trans (at_has HFS.out hg)
  have hKl : K < m0.ac.length := by rw [hK]; exact has_pos hvm hg
  have i0 : ¬ (K : Int) < 0 := by omega
  have i1 : (0 : Int) ≤ K := by omega
  have i2 : (K : Int) < m0.ac.length := by omega
  have HHG := Lib.hid (show (has (nas m0.ac) fr && has (nas m0.ac) tt) = true by rw [hh, hg]; rfl)
  clear hh hg
  by_cases e2 : fr = tt
  case pos =>
    have HE := Lib.hid (show ms' = [] ∧ n' = 0 ∧ er = 2 by
      have h := HR.out
      rw [chg_er (f := fMove fr tt k) (e := 2) HFS.out (by unfold fMove; rw [HHG.out, decide_eq_true e2]; rfl) (by decide)] at h
      injection h with h1 h2
      exact ⟨h1.symm, by rw [← HN'.out, ← h1]; rfl, h2.symm⟩)
    have e2' := eq_yes e2
    have e2'' : fr.toList = tt.toList := by rw [e2]
    clear e2 hJ hK hvm
    have y0 := cell_of R_2.out 0 _ rfl
    have yf := frozen_of R_2.out 0
    go_wp2_with fail
    have h4 := set1 R_2.out (.slice none 0 0)
    have r0 := cell_of h4 0 _ rfl
    exact bodyPost_ret (v := .tuple #[.agg #[.slice none 0 0], .int .i64 2]) (by simp [results, Try.results67, go_sem, r0]) rfl ⟨none, 0, by rw [HE.out.2.1, HE.out.2.2], by rw [HE.out.1]; exact st_nil _, B2.out.setCell (p := ⟨w.heap.size + 1, 0, none⟩) (Nat.le_succ _) _⟩
  have e2' := eq_no e2
  have HNE := Lib.hid e2
  clear e2
  rcases Kb.hb (sig k) with h2 | h2
  case inr =>
    have HE := Lib.hid (show ms' = [] ∧ n' = 0 ∧ er = 2 by
      have h := HR.out
      rw [chg_er (f := fMove fr tt k) (e := 2) HFS.out (by unfold fMove; rw [HHG.out, h2, Bool.and_false]; rfl) (by decide)] at h
      injection h with h1 h2
      exact ⟨h1.symm, by rw [← HN'.out, ← h1]; rfl, h2.symm⟩)
    have HSQ := Lib.hid (fun wx => rsigned_q k false wx h2)
    clear h2 hJ hK hvm
    have y0 := cell_of R_2.out 0 _ rfl
    have yf := frozen_of R_2.out 0
    go_wp2_with fail
    refine (HSQ.out _).mono ?_
    rintro e wq ⟨rfl, rfl⟩
    go_wp2_with fail
    have h4 := set1 R_2.out (.slice none 0 0)
    have r0 := cell_of h4 0 _ rfl
    exact bodyPost_ret (v := .tuple #[.agg #[.slice none 0 0], .int .i64 2]) (by simp [results, Try.results67, go_sem, r0]) rfl ⟨none, 0, by rw [HE.out.2.1, HE.out.2.2], by rw [HE.out.1]; exact st_nil _, B2.out.setCell (p := ⟨w.heap.size + 1, 0, none⟩) (Nat.le_succ _) _⟩
  have HSQ := Lib.hid (fun wx => rsigned_q k true wx h2)
  have hk2 := sig_b h2
  have hub := HFF.out.2.2 _ (ga_mem m0.ac J hJl)
  have hU1 := addU_bound (d := 1125899906842624) (n := -k) J hJl HFF.out.2.2 (by omega)
  have hU2 := addU_bound (d := 1125899906842624) (n := k) K (by rw [addU_len]; exact hKl) hU1 (by omega)
  obtain ⟨L1, hL1⟩ : ∃ L, L = addU m0.ac J (-k) := ⟨_, rfl⟩
  rw [← hL1] at hU1 hU2
  have hl1 : L1.length = m0.ac.length := by rw [hL1]; exact addU_len _ _ _
  have hu2 := hU1 _ (ga_mem L1 K (by omega))
  obtain ⟨us, hus⟩ : ∃ u, u = (ga m0.ac J).us := ⟨_, rfl⟩
  rw [← hus] at hub
  obtain ⟨u2, hv2⟩ : ∃ u, u = (ga L1 K).us := ⟨_, rfl⟩
  rw [← hv2] at hu2
  obtain ⟨L2, hL2⟩ : ∃ L, L = addU L1 K k := ⟨_, rfl⟩
  rw [← hL2] at hU2
  have hl2 : L2.length = m0.ac.length := by rw [hL2, addU_len]; exact hl1
  obtain ⟨E1, hE1⟩ : ∃ E, E = ex m0.ac := ⟨_, rfl⟩
  obtain ⟨E2, hE2⟩ : ∃ E, E = ex L2 := ⟨_, rfl⟩
  have HFU := Lib.hid (show fMove fr tt k m0 = (if m0.su && decide (E1 < E2) then (m0, 20) else (wac m0 L2, 0)) by
    have hml : mvL m0 fr tt k = L2 := by rw [hL2, hL1, hJ, hK]; rfl
    unfold fMove
    rw [HHG.out, decide_eq_false HNE.out, h2, hml, hE1, hE2]
    rfl)
  have hw1 : IntKind.i64.wrap (us - k) = us - k := IntWalk.i64_in _ (by omega)
  have hw2 : IntKind.i64.wrap (u2 + k) = u2 + k := IntWalk.i64_in _ (by omega)
  have HL1 := Lib.hid (show m0.ac.set J { ga m0.ac J with us := us - k } = L1 by rw [hL1, hus]; rfl)
  have HL2 := Lib.hid (show L1.set K { ga L1 K with us := u2 + k } = L2 by rw [hL2, hv2]; rfl)
  have HU2 := Lib.hid hU2
  have HE1 := Lib.hid hE1.symm
  have HE2 := Lib.hid hE2.symm
  have HVM := Lib.hid hvm
  have HUS := Lib.hid hus
  have HV2 := Lib.hid hv2
  clear hU1 hU2 hL1 hL2 hE1 hE2 hus hv2 hub hu2 hJ hK h2 hvm hk2
  go_wp2_with fail
  refine (HSQ.out _).mono ?_
  rintro e wq ⟨rfl, hwq⟩
  subst wq
  go_wp2_with fail
  refine (s_rused am cm m0 E1 w2 HE1.out HFF.out.1 (fun y hy => by have := HFF.out.2.2 y hy; omega) (ho_2.out.sl acc_len).1).mono ?_
  rintro e v3 ⟨rfl, hb⟩
  have hb0 := hb
  have B3 := Lib.hid (bt B2.out hb (Nat.le_refl _))
  have S_3 := Lib.hid (blk_keep S_2.out hb)
  have R_3 := Lib.hid (blk_keep R_2.out hb)
  have hs_3 := Lib.hid (hs_2.out.below hb)
  have ho_3 := Lib.hid (ho_2.out.below hb)
  have M_3 := Lib.hid (blk_keep M_2.out hb)
  clear hb hb0 B2 S_2 R_2 hs_2 ho_2 M_2 
  have hstop := trivial
  clear hstop
  obtain ⟨G, cur, rfl, -, hBG, hcur, -⟩ := ho_3.out.row (by omega)
  have hat := (ho_3.out.sl acc_len).1
  obtain ⟨-, -, -, p3⟩ := at_a' hat J hJl
  rw [← HUS.out] at p3
  simp only [Nat.zero_add] at p3
  have pf := frozen_of hcur (J * 4 + 3)
  have hGl := blk_lt hcur
  clear hat hcur
  have hWG : w.heap.size + 1 < G := by have := HWO.out; omega
  have hGX : G ≠ XM := own_blk' ho_3.out M_3.out
  have lm := cell_of M_3.out 4 _ rfl
  have ll := blk_lt M_3.out
  have S5 := Lib.hid (set_other (i := J * 4 + 3) S_3.out (show G ≠ w.heap.size by omega) (.int .i64 (us - k)))
  have R5 := Lib.hid (set_other (i := J * 4 + 3) R_3.out (show G ≠ w.heap.size + 1 by omega) (.int .i64 (us - k)))
  have M5 := Lib.hid (set_other (i := J * 4 + 3) M_3.out (show G ≠ XM by omega) (.int .i64 (us - k)))
  have B5 := Lib.hid (B3.out.setCell (p := ⟨G, J * 4 + 3, none⟩) (show w.heap.size ≤ G by omega) (.int .i64 (us - k)))
  have ho5 := Lib.hid (show OwnL _ _ _ 4 acc (.slice (some ⟨G, 0, none⟩) m0.ac.length cm) L1 by have h := own_us ho_3.out rfl hJl (us - k); rw [HL1.out] at h; exact h)
  have hs5 := Lib.hid (HS0.out.below B5.out)
  go_wp2_with fail
  go_region
  all_goals
    clear p3 pf lm ll hGl
    generalize World.setCell _ ⟨G, J * 4 + 3, none⟩ _ = w5 at S5 R5 M5 B5 ho5 hs5 ⊢
    have kd : Below w5.heap.size w5 w5.drew := (Below.refl _ _).drew
    generalize w5.drew = w5' at kd ⊢
    have B4 := Lib.hid (bt B5.out kd (Nat.le_refl _))
    have S_4 := Lib.hid (blk_keep S5.out kd)
    have R_4 := Lib.hid (blk_keep R5.out kd)
    have M_4 := Lib.hid (blk_keep M5.out kd)
    have hs_4 := Lib.hid (hs5.out.below kd)
    have ho_4 := Lib.hid (ho5.out.below kd)
    clear B5 S5 R5 M5 hs5 ho5 kd
    obtain ⟨G', cur, hG', -, -, hcur, -⟩ := ho_4.out.row (by omega)
    cases hG'
    have hat := (ho_4.out.sl acc_len).1
    obtain ⟨-, -, -, p3⟩ := at_a' hat K (by omega)
    rw [← HV2.out] at p3
    simp only [Nat.zero_add] at p3
    have pf := frozen_of hcur (K * 4 + 3)
    have hGl := blk_lt hcur
    clear hat hcur
    have lm := cell_of M_4.out 4 _ rfl
    have ll := blk_lt M_4.out
    have S6 := Lib.hid (set_other (i := K * 4 + 3) S_4.out (show G ≠ w.heap.size by omega) (.int .i64 (u2 + k)))
    have R6 := Lib.hid (set_other (i := K * 4 + 3) R_4.out (show G ≠ w.heap.size + 1 by omega) (.int .i64 (u2 + k)))
    have M6 := Lib.hid (set_other (i := K * 4 + 3) M_4.out (show G ≠ XM by omega) (.int .i64 (u2 + k)))
    have B6 := Lib.hid (B4.out.setCell (p := ⟨G, K * 4 + 3, none⟩) (show w.heap.size ≤ G by omega) (.int .i64 (u2 + k)))
    have ho6 := Lib.hid (show OwnL _ _ _ 4 acc (.slice (some ⟨G, 0, none⟩) m0.ac.length cm) L2 by have h := own_us (J := K) ho_4.out hl1 (by omega) (u2 + k); rw [HL2.out] at h; exact h)
    have hs6 := Lib.hid (HS0.out.below B6.out)
    go_wp2_with fail
    go_region
    all_goals
      clear p3 pf lm ll hGl
      generalize World.setCell _ ⟨G, K * 4 + 3, none⟩ _ = w6 at S6 R6 M6 B6 ho6 hs6 ⊢
      have kd : Below w6.heap.size w6 w6.drew := (Below.refl _ _).drew
      generalize w6.drew = w7 at kd ⊢
      have B5 := Lib.hid (bt B6.out kd (Nat.le_refl _))
      have S_5 := Lib.hid (blk_keep S6.out kd)
      have R_5 := Lib.hid (blk_keep R6.out kd)
      have M_5 := Lib.hid (blk_keep M6.out kd)
      have hs_5 := Lib.hid (hs6.out.below kd)
      have ho_5 := Lib.hid (ho6.out.below kd)
      clear B6 S6 R6 M6 hs6 ho6 kd
      obtain ⟨su, hsu⟩ : ∃ b, b = m0.su := ⟨_, rfl⟩
      have lm := cell_of M_5.out 2 _ rfl
      rw [← hsu] at lm HFU
      have HSU := Lib.hid hsu
      clear hsu
      cases su
      case false =>
        have hf : fMove fr tt k m0 = (({ m0 with ac := L2 } : Me), 0) := by rw [HFU.out]; rfl
        have HED := Lib.hid (show chgF ms t (fMove fr tt k) = edF ms ({ m0 with ac := L2 } : Me) by rw [chg_ed HFS.out (by rw [hf]) (by rw [hf]), hf])
        have HOK := Lib.hid (show OkM ({ m0 with ac := L2 } : Me) by have := ok_move fr tt k m0 (val_ok HVM.out) HVM.out (by rw [hf]); rw [hf] at this; exact this)
        clear hf
        go_upto_region 14 with fail
        clear lm
        have m90 := cell_of M_5.out 0 _ rfl
        have m91 := cell_of M_5.out 1 _ rfl
        have m92 := cell_of M_5.out 2 _ rfl
        have m93 := cell_of M_5.out 3 _ rfl
        have m94 := cell_of M_5.out 4 _ rfl
        have s9 := cell_of S_5.out 0 _ rfl
        go_wp2_with fail
        clear m90 m91 m92 m93 m94 s9
        have HEN := Lib.hid (s_endedN a (some ⟨G, 0, none⟩) c cm n n' m0.ac.length ms ms' ({ m0 with ac := L2 } : Me) er w7 (HED.out.symm.trans HR.out) HN.out HN'.out (by omega) HLN.out HOK.out hs_5.out (ho_5.out.lower' (Nat.zero_le _)) hl2)
        refine HEN.out.mono ?_
        rintro e v9 ⟨a9, c9, rfl, hS9, hb⟩
        have R9 := blk_keep R_5.out hb
        have B9 := bt B5.out hb (Nat.le_refl _)
        have y0 := cell_of R9 0 _ rfl
        have yf := frozen_of R9 0
        have HR9 := Lib.hid R9
        have HB9 := Lib.hid B9
        have HS9 := Lib.hid hS9
        clear R9 B9 hS9 hb HEN
        go_wp2_with fail
        have h5 := set1 HR9.out (.slice a9 n' c9)
        have r0 := cell_of h5 0 _ rfl
        exact bodyPost_ret (v := .tuple #[.agg #[.slice a9 n' c9], .int .i64 er]) (by simp [results, Try.results67, go_sem, r0]) rfl ⟨a9, c9, rfl, HS9.out.box HR9.out (fun s e => by cases e), HB9.out.setCell (p := ⟨w.heap.size + 1, 0, none⟩) (Nat.le_succ _) _⟩
      case true =>
        have m90 := cell_of M_5.out 0 _ rfl
        have m91 := cell_of M_5.out 1 _ rfl
        have m93 := cell_of M_5.out 3 _ rfl
        have m94 := cell_of M_5.out 4 _ rfl
        have s9 := cell_of S_5.out 0 _ rfl
        go_wp2_with fail
        clear m90 m91 m93 m94 s9 lm
        refine (s_rusedN (some ⟨G, 0, none⟩) cm m0.ac.length ({ m0 with su := true, ac := L2 } : Me) E2 w7 HE2.out (by show L2.length ≤ 1000; have := HFF.out.1; omega) (fun y hy => by have := HU2.out y hy; omega) (ho_5.out.sl acc_len).1 hl2).mono ?_
        rintro e v6 ⟨rfl, hb⟩
        have hb0 := hb
        have B6 := Lib.hid (bt B5.out hb (Nat.le_refl _))
        have S_6 := Lib.hid (blk_keep S_5.out hb)
        have R_6 := Lib.hid (blk_keep R_5.out hb)
        have M_6 := Lib.hid (blk_keep M_5.out hb)
        have hs_6 := Lib.hid (hs_5.out.below hb)
        have ho_6 := Lib.hid (ho_5.out.below hb)
        clear hb hb0 B5 S_5 R_5 M_5 hs_5 ho_5 
        have hstop := trivial
        clear hstop
        by_cases hlt : E1 < E2
        case pos =>
          have HE := Lib.hid (show ms' = [] ∧ n' = 0 ∧ er = 20 by
            have h := HR.out
            rw [chg_er (f := fMove fr tt k) (e := 20) HFS.out (by rw [HFU.out, decide_eq_true hlt]; rfl) (by decide)] at h
            injection h with h1 h2
            exact ⟨h1.symm, by rw [← HN'.out, ← h1]; rfl, h2.symm⟩)
          have y0 := cell_of R_6.out 0 _ rfl
          have yf := frozen_of R_6.out 0
          go_wp2_with fail
          have h4 := set1 R_6.out (.slice none 0 0)
          have r0 := cell_of h4 0 _ rfl
          exact bodyPost_ret (v := .tuple #[.agg #[.slice none 0 0], .int .i64 20]) (by simp [results, Try.results67, go_sem, r0]) rfl ⟨none, 0, by rw [HE.out.2.1, HE.out.2.2], by rw [HE.out.1]; exact st_nil _, B6.out.setCell (p := ⟨w.heap.size + 1, 0, none⟩) (Nat.le_succ _) _⟩
        have hf : fMove fr tt k m0 = (({ m0 with ac := L2 } : Me), 0) := by rw [HFU.out, decide_eq_false hlt]; rfl
        have HED := Lib.hid (show chgF ms t (fMove fr tt k) = edF ms ({ m0 with ac := L2 } : Me) by rw [chg_ed HFS.out (by rw [hf]) (by rw [hf]), hf])
        have HOK := Lib.hid (show OkM ({ m0 with ac := L2 } : Me) by have := ok_move fr tt k m0 (val_ok HVM.out) HVM.out (by rw [hf]); rw [hf] at this; exact this)
        clear hf
        have m90 := cell_of M_6.out 0 _ rfl
        have m91 := cell_of M_6.out 1 _ rfl
        have m92 := cell_of M_6.out 2 _ rfl
        have m93 := cell_of M_6.out 3 _ rfl
        have m94 := cell_of M_6.out 4 _ rfl
        have s9 := cell_of S_6.out 0 _ rfl
        go_wp2_with fail
        clear m90 m91 m92 m93 m94 s9
        have HEN := Lib.hid (s_endedN a (some ⟨G, 0, none⟩) c cm n n' m0.ac.length ms ms' ({ m0 with ac := L2 } : Me) er v6 (HED.out.symm.trans HR.out) HN.out HN'.out (by omega) HLN.out HOK.out hs_6.out (ho_6.out.lower' (Nat.zero_le _)) hl2)
        refine HEN.out.mono ?_
        rintro e v9 ⟨a9, c9, rfl, hS9, hb⟩
        have R9 := blk_keep R_6.out hb
        have B9 := bt B6.out hb (Nat.le_refl _)
        have y0 := cell_of R9 0 _ rfl
        have yf := frozen_of R9 0
        have HR9 := Lib.hid R9
        have HB9 := Lib.hid B9
        have HS9 := Lib.hid hS9
        clear R9 B9 hS9 hb HEN
        go_wp2_with fail
        have h5 := set1 HR9.out (.slice a9 n' c9)
        have r0 := cell_of h5 0 _ rfl
        exact bodyPost_ret (v := .tuple #[.agg #[.slice a9 n' c9], .int .i64 er]) (by simp [results, Try.results67, go_sem, r0]) rfl ⟨a9, c9, rfl, HS9.out.box HR9.out (fun s e => by cases e), HB9.out.setCell (p := ⟨w.heap.size + 1, 0, none⟩) (Nat.le_succ _) _⟩
end Go.Proofs.Ytoemjpfoddeinaa.Mb
