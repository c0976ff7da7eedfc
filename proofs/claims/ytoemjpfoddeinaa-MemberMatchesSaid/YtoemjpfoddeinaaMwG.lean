/-
  Member: Use of the reference.
-/
import Derived.Test.YtoemjpfoddeinaaMwF
namespace Go.Proofs.Ytoemjpfoddeinaa.Mb
open Go.RowKit Go.Proofs.Ytoemjpfoddeinaa Go.Proofs.Ytoemjpfoddeinaa.Ls Go.Proofs.Ytoemjpfoddeinaa.Kb
open Go.Proofs.Ytoemjpfoddeinaa.Nm hiding ret_bool ret_int

theorem s_endedN (a am : Option Addr) (c cm n n' nl : Nat) (ms ms' : List Me) (m : Me) (er : Int) (w : World) (hr : edF ms m = (ms', er)) (hn : ms.length = n) (hn' : ms'.length = n') (h0 : n ≤ 100) (hZ : ∀ m ∈ ms, m.ac.length ≤ 1000) (hOK : OkM m) (hS : St w a ms) (hM : OwnL w 0 32 4 acc (.slice am nl cm) m.ac) (hl : m.ac.length = nl) :
    Calls Try.prog 89 #[.agg #[.slice a n c], .agg #[.string m.nm, .int .u8 m.ro, .bool m.su, .int .i64 m.lim, .slice am nl cm]] w (SW ms' n' er w) := by
  subst hl
  exact s_ended a am c cm n n' ms ms' m er w hr hn hn' h0 hZ hOK hS hM
theorem s_rat (am : Option Addr) (cm : Nat) (m : Me) (t : ByteArray) (i : Int) (w : World) (h : atF m.ac t = i) (hl : m.ac.length ≤ 1000) (hs : srt (nas m.ac) = true) (hA : AtL w 4 acc am m.ac) :
    Calls Try.prog 91 #[.agg #[.string m.nm, .int .u8 m.ro, .bool m.su, .int .i64 m.lim, .slice am m.ac.length cm], .string t] w fun e w' => e = .returned (.int .i64 i) ∧ Below w.heap.size w w' := by
  subst h
  exact rat_any (m, (am, cm)) t w hl hs hA
theorem s_rabs (x y : Int) (w : World) (h : ab x = y) (hb : -9223372036854775808 < x ∧ x ≤ 9223372036854775807) : Calls Try.prog 93 #[.int .i64 x] w fun e w' => e = .returned (.int .i64 y) ∧ w' = w := by
  subst h
  exact refAbs_any x w hb
theorem at_has {ms : List Me} {t t2 : ByteArray} {m0 : Me} (_h : fsF ms t = (m0, 0)) (hh : has (nas m0.ac) t2 = true) : atF m0.ac t2 = (pos (nas m0.ac) t2 : Int) := by unfold atF; rw [if_pos hh]
theorem at_none {m0 : Me} {t2 : ByteArray} (hh : ¬ has (nas m0.ac) t2 = true) : atF m0.ac t2 = -1 := by unfold atF; rw [if_neg hh]
/-- what is used of one account is written -/
theorem own_us {w : World} {B G n c J : Nat} {l : List Ac} (h : OwnL w B 32 4 acc (.slice (some ⟨G, 0, none⟩) n c) l) (hn : l.length = n) (hJ : J < l.length) (v : Int) :
    OwnL (w.setCell ⟨G, J * 4 + 3, none⟩ (.int .i64 v)) B 32 4 acc (.slice (some ⟨G, 0, none⟩) n c) (l.set J { ga l J with us := v }) := by
  subst hn
  have h2 := OwnL.put acc_len h hJ (show 3 < 4 by omega) { ga l J with us := v } (.int .i64 v) (by rw [getElem_ga]; exact acc_us _ _)
  rw [List.length_set] at h2
  exact h2

set_option maxRecDepth 100000 in
set_option maxHeartbeats 8000000 in
theorem w_use (a : Option Addr) (c n : Nat) (ms : List Me) (t : ByteArray) (t2 : ByteArray) (k : Int) (_hk : i64 k) (ms' : List Me) (n' : Nat) (er : Int) (w : World) (hr : chgF ms t (fUse t2 k) = (ms', er)) (hn : ms.length = n) (hn' : ms'.length = n') (h0 : n ≤ 80) (hZ : OkMs ms) (hS : St w a ms) :
    Calls Try.prog 68 #[.agg #[.slice a n c], .string t, .string t2, .int .i64 k] w (SW ms' n' er w) := by
  have hb0 := blk_twoB w (.cells #[.slice a n c] 24) (.cells #[.slice none 0 0] 24)
  have HS0 := Lib.hid hS
  have HX := Lib.hid (blk_two w (.cells #[.slice a n c] 24) (.cells #[.slice none 0 0] 24))
  have HS := Lib.hid hS
  have HN := Lib.hid hn
  have HN' := Lib.hid hn'
  have HZ := Lib.hid hZ
  have HR := Lib.hid hr
  have HLN := Lib.hid (show ∀ m ∈ ms, m.ac.length ≤ 1000 from fun m hm => (hZ m hm).len)
  obtain ⟨m0, hm0⟩ : ∃ m, m = (fsF ms t).1 := ⟨_, rfl⟩
  obtain ⟨e0, he0⟩ : ∃ e, e = (fsF ms t).2 := ⟨_, rfl⟩
  have HFS := Lib.hid (show fsF ms t = (m0, e0) by rw [hm0, he0])
  clear hS hn hn' hZ hr hm0 he0
  go_enter Try.func68, Try.ntmps68
  go_wp2_with fail
  have B0 := Lib.hid hb0
  have S_0 := Lib.hid HX.out.1
  have R_0 := Lib.hid HX.out.2
  have hs_0 := Lib.hid (HS.out.below hb0)
  clear hb0 HX HS
  generalize (w.alloc _).alloc _ = w0 at B0 S_0 R_0 hs_0 ⊢
  refine (s_first a c n ms t m0 e0 w0 HFS.out HN.out (by omega) HZ.out hs_0.out).mono ?_
  rintro e v1 ⟨am, cm, rfl, hO, hb⟩
  have hb0 := hb
  have HWO := Lib.hid (show w.heap.size + 1 + 1 ≤ w0.heap.size from blk_lt R_0.out)
  have hRlt := blk_lt (blk_keep R_0.out hb)
  have hal : Below v1.heap.size v1 (v1.alloc (.cells #[.string m0.nm, .int .u8 m0.ro, .bool m0.su, .int .i64 m0.lim, .slice am m0.ac.length cm] 30)) := (Below.refl _ _).alloc (Nat.le_refl _) _
  have hnw := blk_new v1 (.cells #[.string m0.nm, .int .u8 m0.ro, .bool m0.su, .int .i64 m0.lim, .slice am m0.ac.length cm] 30)
  obtain ⟨XM, hX⟩ : ∃ X, X = v1.heap.size := ⟨_, rfl⟩
  have B1 := Lib.hid (bt (bt B0.out hb (Nat.le_refl _)) hal (Nat.le_refl _))
  have S_1 := Lib.hid (blk_keep (blk_keep S_0.out hb) hal)
  have R_1 := Lib.hid (blk_keep (blk_keep R_0.out hb) hal)
  have hs_1 := Lib.hid ((hs_0.out.below hb).below hal)
  have ho_1 := Lib.hid ((hO).below hal)
  rw [← hX] at hnw
  have M_1 := Lib.hid hnw
  clear hb hb0 B0 S_0 R_0 hs_0 hO
  go_wp2_with fail
  have HXM := Lib.hid (show w.heap.size + 1 < XM by rw [hX]; exact hRlt)
  clear hRlt
  rw [← hX]
  clear hX
  clear hal hnw
  generalize v1.alloc _ = w1 at B1 S_1 R_1 hs_1 ho_1 M_1 ⊢
  have HFF := Lib.hid (fs_facts HFS.out)
  obtain ⟨ai, hai⟩ : ∃ i, i = atF m0.ac t2 := ⟨_, rfl⟩
  have Hai := Lib.hid hai.symm
  clear hai
  refine (s_rat am cm m0 t2 ai w1 Hai.out HFF.out.1 HFF.out.2.1 (ho_1.out.sl acc_len).1).mono ?_
  rintro e v2 ⟨rfl, hb⟩
  have hb0 := hb
  have B2 := Lib.hid (bt B1.out hb (Nat.le_refl _))
  have S_2 := Lib.hid (blk_keep S_1.out hb)
  have R_2 := Lib.hid (blk_keep R_1.out hb)
  have hs_2 := Lib.hid (hs_1.out.below hb)
  have ho_2 := Lib.hid (ho_1.out.below hb)
  have M_2 := Lib.hid (blk_keep M_1.out hb)
  clear hb hb0 B1 S_1 R_1 hs_1 ho_1 M_1 
  go_upto_region 3 with fail
  by_cases h1 : e0 = 0
  case neg =>
    have b1 : (e0 == 0) = false := by simpa using h1
    have b2 : (e0 != 0) = true := by simpa using h1
    have HE := Lib.hid (show ms' = [] ∧ n' = 0 ∧ er = e0 by
      have h := HR.out
      rw [chg_bad HFS.out h1] at h
      injection h with h1 h2
      exact ⟨h1.symm, by rw [← HN'.out, ← h1]; rfl, h2.symm⟩)
    clear h1
    have y0 := cell_of R_2.out 0 _ rfl
    have yf := frozen_of R_2.out 0
    go_wp2_with fail
    have h4 := set1 R_2.out (.slice none 0 0)
    have r0 := cell_of h4 0 _ rfl
    exact bodyPost_ret (v := .tuple #[.agg #[.slice none 0 0], .int .i64 e0]) (by simp [results, Try.results68, go_sem, r0]) rfl ⟨none, 0, by rw [HE.out.2.1, HE.out.2.2], by rw [HE.out.1]; exact st_nil _, B2.out.setCell (p := ⟨w.heap.size + 1, 0, none⟩) (Nat.le_succ _) _⟩
  subst h1
  by_cases hh : has (nas m0.ac) t2 = true
  case neg =>
    obtain rfl : ai = -1 := Hai.out.symm.trans (at_none hh)
    have HE := Lib.hid (show ms' = [] ∧ n' = 0 ∧ er = 6 by
      have h := HR.out
      rw [chg_er (f := fUse t2 k) (e := 6) HFS.out (by unfold fUse; rw [if_neg hh]) (by decide)] at h
      injection h with h1 h2
      exact ⟨h1.symm, by rw [← HN'.out, ← h1]; rfl, h2.symm⟩)
    clear hh
    have y0 := cell_of R_2.out 0 _ rfl
    have yf := frozen_of R_2.out 0
    go_wp2_with fail
    have h4 := set1 R_2.out (.slice none 0 0)
    have r0 := cell_of h4 0 _ rfl
    exact bodyPost_ret (v := .tuple #[.agg #[.slice none 0 0], .int .i64 6]) (by simp [results, Try.results68, go_sem, r0]) rfl ⟨none, 0, by rw [HE.out.2.1, HE.out.2.2], by rw [HE.out.1]; exact st_nil _, B2.out.setCell (p := ⟨w.heap.size + 1, 0, none⟩) (Nat.le_succ _) _⟩
  obtain ⟨J, hJ⟩ : ∃ J, J = pos (nas m0.ac) t2 := ⟨_, rfl⟩
  obtain rfl : ai = (J : Int) := by rw [hJ]; exact Hai.out.symm.trans (at_has HFS.out hh)
  have hvm := (fs_ok HFS.out).2.choose_spec.choose_spec.2.2.2.2
  have hJl : J < m0.ac.length := by rw [hJ]; exact has_pos hvm hh
  have j0 : ¬ (J : Int) < 0 := by omega
  have j1 : (0 : Int) ≤ J := by omega
  have j2 : (J : Int) < m0.ac.length := by omega
  rcases Kb.hb (sig k) with h2 | h2
  case inr =>
    have HE := Lib.hid (show ms' = [] ∧ n' = 0 ∧ er = 2 by
      have h := HR.out
      rw [chg_er (f := fUse t2 k) (e := 2) HFS.out (by unfold fUse; rw [if_pos hh, h2]; rfl) (by decide)] at h
      injection h with h1 h2
      exact ⟨h1.symm, by rw [← HN'.out, ← h1]; rfl, h2.symm⟩)
    have HSQ := Lib.hid (fun wx => rsigned_q k false wx h2)
    clear h2 hh hJ hvm
    have y0 := cell_of R_2.out 0 _ rfl
    have yf := frozen_of R_2.out 0
    go_wp2_with fail
    refine (HSQ.out _).mono ?_
    rintro e wq ⟨rfl, rfl⟩
    go_wp2_with fail
    have h4 := set1 R_2.out (.slice none 0 0)
    have r0 := cell_of h4 0 _ rfl
    exact bodyPost_ret (v := .tuple #[.agg #[.slice none 0 0], .int .i64 2]) (by simp [results, Try.results68, go_sem, r0]) rfl ⟨none, 0, by rw [HE.out.2.1, HE.out.2.2], by rw [HE.out.1]; exact st_nil _, B2.out.setCell (p := ⟨w.heap.size + 1, 0, none⟩) (Nat.le_succ _) _⟩
  have HSQ := Lib.hid (fun wx => rsigned_q k true wx h2)
  have hk2 := sig_b h2
  have hub := HFF.out.2.2 _ (ga_mem m0.ac J hJl)
  obtain ⟨us, hus⟩ : ∃ u, u = (ga m0.ac J).us := ⟨_, rfl⟩
  rw [← hus] at hub
  have HFU := Lib.hid (show fUse t2 k m0 = (if m0.su && decide (ab us < ab (us + k)) then (m0, 20) else (wac m0 (addU m0.ac J k), 0)) by unfold fUse; rw [if_pos hh, if_pos h2, ← hJ, ← hus]; rfl)
  have hw1 : IntKind.i64.wrap (us + k) = us + k := IntWalk.i64_in _ (by omega)
  have HA1 := Lib.hid (fun wx => s_rabs (us + k) (ab (us + k)) wx rfl (by omega))
  have HA2 := Lib.hid (fun wx => s_rabs us (ab us) wx rfl (by omega))
  obtain ⟨G, cur, rfl, _, hBG, hcur, _⟩ := ho_2.out.row (by omega)
  have hat := (ho_2.out.sl acc_len).1
  obtain ⟨_, _, _, p3⟩ := at_a' hat J hJl
  rw [← hus] at p3
  simp only [Nat.zero_add] at p3
  have pf := frozen_of hcur (J * 4 + 3)
  have hGl := blk_lt hcur
  have HUS := Lib.hid hus
  have HJ := Lib.hid hJ
  have HHH := Lib.hid hh
  have HVM := Lib.hid hvm
  have HS2 := Lib.hid h2
  clear hat hcur hus hJ hh hvm h2 hub hk2
  obtain ⟨su, hsu⟩ : ∃ b, b = m0.su := ⟨_, rfl⟩
  have lm := cell_of M_2.out 2 _ rfl
  have l4 := cell_of M_2.out 4 _ rfl
  rw [← hsu] at lm HFU
  have HSU := Lib.hid hsu
  clear hsu
  have hWX := HXM.out
  have hWG : w.heap.size + 1 < G := by have := HWO.out; omega
  have hXl := blk_lt M_2.out
  have hGX : G ≠ XM := own_blk' ho_2.out M_2.out
  cases su
  case false =>
    have hf : fUse t2 k m0 = ({ m0 with ac := addU m0.ac J k }, 0) := by rw [HFU.out]; rfl
    have HED := Lib.hid (show chgF ms t (fUse t2 k) = edF ms ({ m0 with ac := addU m0.ac J k } : Me) by rw [chg_ed HFS.out (by rw [hf]) (by rw [hf]), hf])
    have HOK := Lib.hid (show OkM ({ m0 with ac := addU m0.ac J k } : Me) by have := ok_use t2 k m0 (val_ok HVM.out) HVM.out (by rw [hf]); rw [hf] at this; exact this)
    clear hf
    have S9 := Lib.hid (set_other (i := J * 4 + 3) S_2.out (show G ≠ w.heap.size by omega) (.int .i64 (us + k)))
    have R9 := Lib.hid (set_other (i := J * 4 + 3) R_2.out (show G ≠ w.heap.size + 1 by omega) (.int .i64 (us + k)))
    have M9 := Lib.hid (set_other (i := J * 4 + 3) M_2.out (show G ≠ XM by omega) (.int .i64 (us + k)))
    have B9 := Lib.hid (B2.out.setCell (p := ⟨G, J * 4 + 3, none⟩) (show w.heap.size ≤ G by omega) (.int .i64 (us + k)))
    have ho9 := Lib.hid (own_us ho_2.out rfl hJl (us + k))
    have hs9 := Lib.hid (HS0.out.below B9.out)
    have s9 := cell_of S9.out 0 _ rfl
    have m90 := cell_of M9.out 0 _ rfl
    have m91 := cell_of M9.out 1 _ rfl
    have m92 := cell_of M9.out 2 _ rfl
    have m93 := cell_of M9.out 3 _ rfl
    have m94 := cell_of M9.out 4 _ rfl
    go_wp2_with fail
    refine (HSQ.out _).mono ?_
    rintro e wq ⟨rfl, rfl⟩
    go_wp2_with fail
    clear s9 m90 m91 m92 m93 m94 p3 pf lm l4
    generalize World.setCell _ ⟨G, J * 4 + 3, none⟩ _ = w9 at M9 S9 R9 B9 ho9 hs9 ⊢
    have HEN := Lib.hid (s_endedN a (some ⟨G, 0, none⟩) c cm n n' m0.ac.length ms ms' ({ m0 with ac := addU m0.ac J k } : Me) er w9 (HED.out.symm.trans HR.out) HN.out HN'.out (by omega) HLN.out HOK.out hs9.out (by have := ho9.out.lower' (Nat.zero_le _); rw [HUS.out] at this; exact this) (addU_len _ _ _))
    refine HEN.out.mono ?_
    rintro e v9 ⟨a9, c9, rfl, hS9, hb⟩
    have R9 := blk_keep R9.out hb
    have B9 := bt B9.out hb (Nat.le_refl _)
    have y0 := cell_of R9 0 _ rfl
    have yf := frozen_of R9 0
    have HR9 := Lib.hid R9
    have HB9 := Lib.hid B9
    have HS9 := Lib.hid hS9
    clear R9 B9 hS9 hb HEN
    go_wp2_with fail
    have h5 := set1 HR9.out (.slice a9 n' c9)
    have r0 := cell_of h5 0 _ rfl
    exact bodyPost_ret (v := .tuple #[.agg #[.slice a9 n' c9], .int .i64 er]) (by simp [results, Try.results68, go_sem, r0]) rfl ⟨a9, c9, rfl, HS9.out.box HR9.out (fun s e => by cases e), HB9.out.setCell (p := ⟨w.heap.size + 1, 0, none⟩) (Nat.le_succ _) _⟩
  case true =>
    obtain ⟨A1, hA1⟩ : ∃ x, x = ab (us + k) := ⟨_, rfl⟩
    obtain ⟨A2, hA2⟩ : ∃ x, x = ab us := ⟨_, rfl⟩
    rw [← hA1, ← hA2] at HFU
    rw [← hA1] at HA1
    rw [← hA2] at HA2
    clear hA1 hA2
    by_cases hlt : A2 < A1
    case pos =>
      have HE := Lib.hid (show ms' = [] ∧ n' = 0 ∧ er = 20 by
        have h := HR.out
        rw [chg_er (f := fUse t2 k) (e := 20) HFS.out (by rw [HFU.out, decide_eq_true hlt]; rfl) (by decide)] at h
        injection h with h1 h2
        exact ⟨h1.symm, by rw [← HN'.out, ← h1]; rfl, h2.symm⟩)
      have y0 := cell_of R_2.out 0 _ rfl
      have yf := frozen_of R_2.out 0
      go_wp2_with fail
      refine (HSQ.out _).mono ?_
      rintro e wq ⟨rfl, rfl⟩
      go_wp2_with fail
      refine (HA1.out _).mono ?_
      rintro e wq ⟨rfl, rfl⟩
      go_wp2_with fail
      refine (HA2.out _).mono ?_
      rintro e wq ⟨rfl, rfl⟩
      go_wp2_with fail
      have h4 := set1 R_2.out (.slice none 0 0)
      have r0 := cell_of h4 0 _ rfl
      exact bodyPost_ret (v := .tuple #[.agg #[.slice none 0 0], .int .i64 20]) (by simp [results, Try.results68, go_sem, r0]) rfl ⟨none, 0, by rw [HE.out.2.1, HE.out.2.2], by rw [HE.out.1]; exact st_nil _, B2.out.setCell (p := ⟨w.heap.size + 1, 0, none⟩) (Nat.le_succ _) _⟩
    have hf : fUse t2 k m0 = ({ m0 with ac := addU m0.ac J k }, 0) := by rw [HFU.out, decide_eq_false hlt]; rfl
    have HED := Lib.hid (show chgF ms t (fUse t2 k) = edF ms ({ m0 with ac := addU m0.ac J k } : Me) by rw [chg_ed HFS.out (by rw [hf]) (by rw [hf]), hf])
    have HOK := Lib.hid (show OkM ({ m0 with ac := addU m0.ac J k } : Me) by have := ok_use t2 k m0 (val_ok HVM.out) HVM.out (by rw [hf]); rw [hf] at this; exact this)
    clear hf
    have S9 := Lib.hid (set_other (i := J * 4 + 3) S_2.out (show G ≠ w.heap.size by omega) (.int .i64 (us + k)))
    have R9 := Lib.hid (set_other (i := J * 4 + 3) R_2.out (show G ≠ w.heap.size + 1 by omega) (.int .i64 (us + k)))
    have M9 := Lib.hid (set_other (i := J * 4 + 3) M_2.out (show G ≠ XM by omega) (.int .i64 (us + k)))
    have B9 := Lib.hid (B2.out.setCell (p := ⟨G, J * 4 + 3, none⟩) (show w.heap.size ≤ G by omega) (.int .i64 (us + k)))
    have ho9 := Lib.hid (own_us ho_2.out rfl hJl (us + k))
    have hs9 := Lib.hid (HS0.out.below B9.out)
    have s9 := cell_of S9.out 0 _ rfl
    have m90 := cell_of M9.out 0 _ rfl
    have m91 := cell_of M9.out 1 _ rfl
    have m92 := cell_of M9.out 2 _ rfl
    have m93 := cell_of M9.out 3 _ rfl
    have m94 := cell_of M9.out 4 _ rfl
    go_wp2_with fail
    refine (HSQ.out _).mono ?_
    rintro e wq ⟨rfl, rfl⟩
    go_wp2_with fail
    refine (HA1.out _).mono ?_
    rintro e wq ⟨rfl, rfl⟩
    go_wp2_with fail
    refine (HA2.out _).mono ?_
    rintro e wq ⟨rfl, rfl⟩
    go_wp2_with fail
    clear s9 m90 m91 m92 m93 m94 p3 pf lm l4
    generalize World.setCell _ ⟨G, J * 4 + 3, none⟩ _ = w9 at M9 S9 R9 B9 ho9 hs9 ⊢
    have HEN := Lib.hid (s_endedN a (some ⟨G, 0, none⟩) c cm n n' m0.ac.length ms ms' ({ m0 with ac := addU m0.ac J k } : Me) er w9 (HED.out.symm.trans HR.out) HN.out HN'.out (by omega) HLN.out HOK.out hs9.out (by have := ho9.out.lower' (Nat.zero_le _); rw [HUS.out] at this; exact this) (addU_len _ _ _))
    refine HEN.out.mono ?_
    rintro e v9 ⟨a9, c9, rfl, hS9, hb⟩
    have R9 := blk_keep R9.out hb
    have B9 := bt B9.out hb (Nat.le_refl _)
    have y0 := cell_of R9 0 _ rfl
    have yf := frozen_of R9 0
    have HR9 := Lib.hid R9
    have HB9 := Lib.hid B9
    have HS9 := Lib.hid hS9
    clear R9 B9 hS9 hb HEN
    go_wp2_with fail
    have h5 := set1 HR9.out (.slice a9 n' c9)
    have r0 := cell_of h5 0 _ rfl
    exact bodyPost_ret (v := .tuple #[.agg #[.slice a9 n' c9], .int .i64 er]) (by simp [results, Try.results68, go_sem, r0]) rfl ⟨a9, c9, rfl, HS9.out.box HR9.out (fun s e => by cases e), HB9.out.setCell (p := ⟨w.heap.size + 1, 0, none⟩) (Nat.le_succ _) _⟩
end Go.Proofs.Ytoemjpfoddeinaa.Mb
