/-
  Member: ended, Exposure, SetLimit, Suspend of the reference.
-/
import Derived.Test.YtoemjpfoddeinaaMwE
namespace Go.Proofs.Ytoemjpfoddeinaa.Mb
open Go.RowKit Go.Proofs.Ytoemjpfoddeinaa Go.Proofs.Ytoemjpfoddeinaa.Ls Go.Proofs.Ytoemjpfoddeinaa.Kb
open Go.Proofs.Ytoemjpfoddeinaa.Nm hiding ret_bool ret_int

def edF (ms : List Me) (m : Me) : R := if val m then (withF ms m, 0) else ([], 52)
theorem chg_ed {ms : List Me} {t : ByteArray} {f : Me → Me × Int} {m0 : Me} (h : fsF ms t = (m0, 0)) (hf : (f m0).2 = 0) (hnm : (f m0).1.nm = m0.nm) : chgF ms t f = edF ms (f m0).1 := by
  obtain ⟨hc, L, R, rfl, hm, hL, hR, _⟩ := fs_ok h
  rw [chg_eq f hc hL hm, if_pos hf]
  unfold edF
  have e : (f m0).1.nm = t := hnm.trans hm
  rw [with_mid (by rw [e]; exact hL) (by rw [e]; exact hR) hnm.symm]
theorem chg_er {ms : List Me} {t : ByteArray} {f : Me → Me × Int} {m0 : Me} {e : Int} (h : fsF ms t = (m0, 0)) (hf : (f m0).2 = e) (he : e ≠ 0) : chgF ms t f = ([], e) := by
  obtain ⟨hc, L, R, rfl, hm, hL, hR, _⟩ := fs_ok h
  rw [chg_eq f hc hL hm, if_neg (by rw [hf]; exact he), hf]
theorem chg_bad {ms : List Me} {t : ByteArray} {f : Me → Me × Int} {m0 : Me} {e : Int} (h : fsF ms t = (m0, e)) (he : e ≠ 0) : chgF ms t f = ([], e) := by
  have := (fs_bad h he).2
  unfold chgF
  rw [if_neg (by rw [this]; exact he), this]
/-- a member's box is written -/
theorem mbox3 {w : World} {B : Nat} {a0 a1 a2 a3 a4 : Value} {t : TypeId} (h : w.heap[B]? = some (.cells #[a0, a1, a2, a3, a4] t (0, 0))) (v : Value) : (w.setCell ⟨B, 3, none⟩ v).heap[B]? = some (.cells #[a0, a1, a2, v, a4] t (0, 0)) := by
  simp [World.setCell, Array.getElem?_modify, h]
theorem mbox2 {w : World} {B : Nat} {a0 a1 a2 a3 a4 : Value} {t : TypeId} (h : w.heap[B]? = some (.cells #[a0, a1, a2, a3, a4] t (0, 0))) (v : Value) : (w.setCell ⟨B, 2, none⟩ v).heap[B]? = some (.cells #[a0, a1, v, a3, a4] t (0, 0)) := by
  simp [World.setCell, Array.getElem?_modify, h]
theorem s_rright (am : Option Addr) (cm : Nat) (m : Me) (b : Bool) (w : World) (h : val m = b) (hZ : OkM m) (hA : AtL w 4 acc am m.ac) :
    Calls Try.prog 74 #[.agg #[.string m.nm, .int .u8 m.ro, .bool m.su, .int .i64 m.lim, .slice am m.ac.length cm]] w fun e w' => e = .returned (.bool b) ∧ Below w.heap.size w w' := by
  subst h
  exact right_any (m, (am, cm)) w hZ hA
set_option maxRecDepth 100000 in
set_option maxHeartbeats 8000000 in
theorem s_ended (a am : Option Addr) (c cm n n' : Nat) (ms ms' : List Me) (m : Me) (er : Int) (w : World) (hr : edF ms m = (ms', er)) (hn : ms.length = n) (hn' : ms'.length = n') (h0 : n ≤ 100) (hZ : ∀ m ∈ ms, m.ac.length ≤ 1000) (hOK : OkM m) (hS : St w a ms) (hM : OwnL w 0 32 4 acc (.slice am m.ac.length cm) m.ac) :
    Calls Try.prog 89 #[.agg #[.slice a n c], .agg #[.string m.nm, .int .u8 m.ro, .bool m.su, .int .i64 m.lim, .slice am m.ac.length cm]] w (SW ms' n' er w) := by
  have hbo := blk_threeB w (.cells #[.slice a n c] 24) (.cells #[.string m.nm, .int .u8 m.ro, .bool m.su, .int .i64 m.lim, .slice am m.ac.length cm] 30) (.cells #[.slice none 0 0] 24)
  have HX := Lib.hid (blk_three w (.cells #[.slice a n c] 24) (.cells #[.string m.nm, .int .u8 m.ro, .bool m.su, .int .i64 m.lim, .slice am m.ac.length cm] 30) (.cells #[.slice none 0 0] 24))
  have HS := Lib.hid hS
  have HN := Lib.hid hn
  have HN' := Lib.hid hn'
  have HLN := Lib.hid hZ
  have HM := Lib.hid hM
  have HR := Lib.hid hr
  obtain ⟨v, hv⟩ : ∃ v, v = val m := ⟨_, rfl⟩
  have HV := Lib.hid hv
  have HRI := Lib.hid (fun wx (h : Below w.heap.size w wx) => s_rright am cm m v wx hv.symm hOK ((hM.below h).sl acc_len).1)
  clear hS hn hn' hZ hM hr hv hOK
  go_enter Try.func89, Try.ntmps89
  have x0 := cell_of HX.out.2.1 0 _ rfl
  go_wp2_with fail
  clear x0
  generalize ((w.alloc _).alloc _).alloc _ = wo at hbo HX ⊢
  refine (HRI.out wo hbo).mono ?_
  rintro e w1 ⟨rfl, hb1⟩
  have S1 := Lib.hid (blk_keep HX.out.1 hb1)
  have M1 := Lib.hid (blk_keep HX.out.2.1 hb1)
  have R1 := Lib.hid (blk_keep HX.out.2.2 hb1)
  have B1 := Lib.hid (bt hbo hb1 (Nat.le_refl _))
  clear HX hbo hb1
  have y0 := cell_of R1.out 0 _ rfl
  have yf := frozen_of R1.out 0
  cases v
  case false =>
    have HE := Lib.hid (show ms' = [] ∧ n' = 0 ∧ er = 52 by
      have h := HR.out
      unfold edF at h
      rw [← HV.out] at h
      injection h with h1 h2
      exact ⟨h1.symm, by rw [← HN'.out, ← h1]; rfl, h2.symm⟩)
    go_wp2_with fail
    have h4 := set1 R1.out (.slice none 0 0)
    have r0 := cell_of h4 0 _ rfl
    exact bodyPost_ret (v := .tuple #[.agg #[.slice none 0 0], .int .i64 52]) (by simp [results, Try.results89, go_sem, r0]) rfl ⟨none, 0, by rw [HE.out.2.1, HE.out.2.2], by rw [HE.out.1]; exact st_nil _, B1.out.setCell (p := ⟨w.heap.size + 1 + 1, 0, none⟩) (by show w.heap.size ≤ w.heap.size + 1 + 1; omega) _⟩
  case true =>
    have HE := Lib.hid (show withF ms m = ms' ∧ er = 0 by
      have h := HR.out
      unfold edF at h
      rw [← HV.out] at h
      injection h with h1 h2
      exact ⟨h1, h2.symm⟩)
    have s0 := cell_of S1.out 0 _ rfl
    have m0 := cell_of M1.out 0 _ rfl
    have m1 := cell_of M1.out 1 _ rfl
    have m2 := cell_of M1.out 2 _ rfl
    have m3 := cell_of M1.out 3 _ rfl
    have m4 := cell_of M1.out 4 _ rfl
    go_wp2_with fail
    refine (s_with a am c cm n n' ms ms' m w1 HE.out.1 HN.out HN'.out h0 HLN.out (HS.out.below B1.out) (HM.out.below B1.out)).mono ?_
    rintro e w2 ⟨a2, c2, rfl, hS2, hb2⟩
    have R2 := Lib.hid (blk_keep R1.out hb2)
    have B2 := Lib.hid (bt B1.out hb2 (Nat.le_refl _))
    have HS2 := Lib.hid hS2
    clear s0 m0 m1 m2 m3 m4 y0 yf hS2 hb2
    have y0 := cell_of R2.out 0 _ rfl
    have yf := frozen_of R2.out 0
    go_wp2_with fail
    have h5 := set1 R2.out (.slice a2 n' c2)
    have r0 := cell_of h5 0 _ rfl
    exact bodyPost_ret (v := .tuple #[.agg #[.slice a2 n' c2], .int .i64 0]) (by simp [results, Try.results89, go_sem, r0]) rfl ⟨a2, c2, by rw [HE.out.2], HS2.out.box R2.out (fun s e => by cases e), B2.out.setCell (p := ⟨w.heap.size + 1 + 1, 0, none⟩) (by show w.heap.size ≤ w.heap.size + 1 + 1; omega) _⟩
theorem s_rused (am : Option Addr) (cm : Nat) (m : Me) (x : Int) (w : World) (h : ex m.ac = x) (hl : m.ac.length ≤ 1000) (hU : ∀ y ∈ m.ac, -4503599627370496 ≤ y.us ∧ y.us ≤ 4503599627370496) (hA : AtL w 4 acc am m.ac) :
    Calls Try.prog 73 #[.agg #[.string m.nm, .int .u8 m.ro, .bool m.su, .int .i64 m.lim, .slice am m.ac.length cm]] w fun e w' => e = .returned (.int .i64 x) ∧ Below w.heap.size w w' := by
  subst h
  exact rused_any (m, (am, cm)) w hl hA hU
/-- the member that first gives -/
theorem fs_facts {ms : List Me} {t : ByteArray} {m0 : Me} {e0 : Int} (h : fsF ms t = (m0, e0)) : m0.ac.length ≤ 1000 ∧ srt (nas m0.ac) = true ∧ (∀ y ∈ m0.ac, -1125899906842624 ≤ y.us ∧ y.us ≤ 1125899906842624) := by
  by_cases he : e0 = 0
  · subst he
    obtain ⟨hc, L, R, rfl, hm, hL, hR, hv⟩ := fs_ok h
    exact ⟨(val_ok hv).len, (val_parts hv).1, used_b hv⟩
  · obtain ⟨rfl, _⟩ := fs_bad h he
    exact ⟨by decide, rfl, fun y hy => by cases hy⟩
set_option maxRecDepth 100000 in
set_option maxHeartbeats 4000000 in
theorem s_rexpo (a : Option Addr) (c n : Nat) (ms : List Me) (t : ByteArray) (x e0 : Int) (w : World) (hr : expoF ms t = (x, e0)) (hn : ms.length = n) (h0 : n ≤ 1000) (hZ : OkMs ms) (hS : St w a ms) :
    Calls Try.prog 33 #[.agg #[.slice a n c], .string t] w fun e w' => e = .returned (.tuple #[.int .i64 x, .int .i64 e0]) ∧ Below w.heap.size w w' := by
  have hbo : Below w.heap.size w (w.alloc (.cells #[.slice a n c] 24)) := (Below.refl _ _).alloc (Nat.le_refl _) _
  have HX := Lib.hid (blk_new w (.cells #[.slice a n c] 24))
  obtain ⟨m0, hm0⟩ : ∃ m, m = (fsF ms t).1 := ⟨_, rfl⟩
  obtain ⟨e1, he1⟩ : ∃ e, e = (fsF ms t).2 := ⟨_, rfl⟩
  have HFS := Lib.hid (show fsF ms t = (m0, e1) by rw [hm0, he1])
  have HS := Lib.hid hS
  have HRR := Lib.hid (show x = ex m0.ac ∧ e0 = e1 by
    have h := HFS.out
    unfold fsF at h
    unfold expoF at hr
    split at hr
    · rename_i g
      rw [if_pos g] at h
      injection h with h1 h2
      injection hr with h3 h4
      exact ⟨by rw [← h3, h1], by rw [← h4, h2]⟩
    · rename_i g
      rw [if_neg g] at h
      injection h with h1 h2
      injection hr with h3 h4
      exact ⟨by rw [← h3, ← h1]; rfl, by rw [← h4, h2]⟩)
  have HFF := Lib.hid (fs_facts HFS.out)
  clear hm0 he1 hS hr
  go_enter Try.func33, Try.ntmps33
  go_wp2_with fail
  generalize w.alloc _ = wo at hbo HX ⊢
  refine (s_first a c n ms t m0 e1 wo HFS.out hn h0 hZ (HS.out.below hbo)).mono ?_
  rintro e w1 ⟨a1, c1, rfl, hO, hb1⟩
  have hal : Below w1.heap.size w1 (w1.alloc (.cells #[.string m0.nm, .int .u8 m0.ro, .bool m0.su, .int .i64 m0.lim, .slice a1 m0.ac.length c1] 30)) := (Below.refl _ _).alloc (Nat.le_refl _) _
  have HA1 := Lib.hid (((hO.below hal).sl acc_len).1)
  have B1 := Lib.hid (bt (bt hbo hb1 (Nat.le_refl _)) hal (Nat.le_refl _))
  clear hO hb1 hbo hal
  go_wp2_with fail
  generalize w1.alloc _ = w2 at HA1 B1 ⊢
  refine (s_rused a1 c1 m0 (ex m0.ac) w2 rfl HFF.out.1 (fun y hy => by have := HFF.out.2.2 y hy; omega) HA1.out).mono ?_
  rintro e w3 ⟨rfl, hb3⟩
  go_wp2_with fail
  go_ret2
  exact ⟨by rw [HRR.out.1, HRR.out.2]; rfl, bt B1.out hb3 (Nat.le_refl _)⟩

set_option maxRecDepth 100000 in
set_option maxHeartbeats 8000000 in
theorem w_setlimit (a : Option Addr) (c n : Nat) (ms : List Me) (t : ByteArray) (lim : Int) (_hlim : i64 lim) (ms' : List Me) (n' : Nat) (er : Int) (w : World) (hr : chgF ms t (fLim lim) = (ms', er)) (hn : ms.length = n) (hn' : ms'.length = n') (h0 : n ≤ 80) (hZ : OkMs ms) (hS : St w a ms) :
    Calls Try.prog 63 #[.agg #[.slice a n c], .string t, .int .i64 lim] w (SW ms' n' er w) := by
  have hb0 := blk_twoB w (.cells #[.slice a n c] 24) (.cells #[.slice none 0 0] 24)
  have HS0 := Lib.hid hS
  have HX := Lib.hid (blk_two w (.cells #[.slice a n c] 24) (.cells #[.slice none 0 0] 24))
  have HS := Lib.hid hS
  have HN := Lib.hid hn
  have HN' := Lib.hid hn'
  have HZ := Lib.hid hZ
  have HR := Lib.hid hr
  have HLN := Lib.hid (show ∀ m ∈ ms, m.ac.length ≤ 1000 from fun m hm => (hZ m hm).len)
  obtain ⟨m0, hm0⟩ : ∃ m, m = (fsF ms t).1 := ⟨_, rfl⟩
  obtain ⟨e0, he0⟩ : ∃ e, e = (fsF ms t).2 := ⟨_, rfl⟩
  have HFS := Lib.hid (show fsF ms t = (m0, e0) by rw [hm0, he0])
  clear hS hn hn' hZ hr hm0 he0
  go_enter Try.func63, Try.ntmps63
  go_wp2_with fail
  have B0 := Lib.hid hb0
  have S_0 := Lib.hid HX.out.1
  have R_0 := Lib.hid HX.out.2
  have hs_0 := Lib.hid (HS.out.below hb0)
  clear hb0 HX HS
  generalize (w.alloc _).alloc _ = w0 at B0 S_0 R_0 hs_0 ⊢
  refine (s_first a c n ms t m0 e0 w0 HFS.out HN.out (by omega) HZ.out hs_0.out).mono ?_
  rintro e v1 ⟨am, cm, rfl, hO, hb⟩
  have hb0 := hb
  have hRlt := blk_lt (blk_keep R_0.out hb)
  have hal : Below v1.heap.size v1 (v1.alloc (.cells #[.string m0.nm, .int .u8 m0.ro, .bool m0.su, .int .i64 m0.lim, .slice am m0.ac.length cm] 30)) := (Below.refl _ _).alloc (Nat.le_refl _) _
  have hnw := blk_new v1 (.cells #[.string m0.nm, .int .u8 m0.ro, .bool m0.su, .int .i64 m0.lim, .slice am m0.ac.length cm] 30)
  obtain ⟨XM, hX⟩ : ∃ X, X = v1.heap.size := ⟨_, rfl⟩
  have B1 := Lib.hid (bt (bt B0.out hb (Nat.le_refl _)) hal (Nat.le_refl _))
  have S_1 := Lib.hid (blk_keep (blk_keep S_0.out hb) hal)
  have R_1 := Lib.hid (blk_keep (blk_keep R_0.out hb) hal)
  have hs_1 := Lib.hid ((hs_0.out.below hb).below hal)
  have ho_1 := Lib.hid ((hO).below hal)
  rw [← hX] at hnw
  have M_1 := Lib.hid hnw
  clear hb hb0 B0 S_0 R_0 hs_0 hO
  go_upto_region 2 with fail
  have HXM := Lib.hid (show w.heap.size + 1 < XM by rw [hX]; exact hRlt)
  clear hRlt
  rw [← hX]
  clear hX
  clear hal hnw
  generalize v1.alloc _ = w1 at B1 S_1 R_1 hs_1 ho_1 M_1 ⊢
  by_cases h1 : e0 = 0
  case neg =>
    have b1 : (e0 == 0) = false := by simpa using h1
    have b2 : (e0 != 0) = true := by simpa using h1
    have HE := Lib.hid (show ms' = [] ∧ n' = 0 ∧ er = e0 by
      have h := HR.out
      rw [chg_bad HFS.out h1] at h
      injection h with h1 h2
      exact ⟨h1.symm, by rw [← HN'.out, ← h1]; rfl, h2.symm⟩)
    clear h1
    have y0 := cell_of R_1.out 0 _ rfl
    have yf := frozen_of R_1.out 0
    go_wp2_with fail
    have h4 := set1 R_1.out (.slice none 0 0)
    have r0 := cell_of h4 0 _ rfl
    exact bodyPost_ret (v := .tuple #[.agg #[.slice none 0 0], .int .i64 e0]) (by simp [results, Try.results63, go_sem, r0]) rfl ⟨none, 0, by rw [HE.out.2.1, HE.out.2.2], by rw [HE.out.1]; exact st_nil _, B1.out.setCell (p := ⟨w.heap.size + 1, 0, none⟩) (Nat.le_succ _) _⟩
  subst h1
  rcases Kb.hb (mon lim) with h2 | h2
  case inr =>
    have HE := Lib.hid (show ms' = [] ∧ n' = 0 ∧ er = 2 by
      have h := HR.out
      rw [chg_er (f := fLim lim) (e := 2) HFS.out (by unfold fLim; rw [h2]; rfl) (by decide)] at h
      injection h with h1 h2
      exact ⟨h1.symm, by rw [← HN'.out, ← h1]; rfl, h2.symm⟩)
    have HMQ := Lib.hid (fun wx => rmoney_q lim false wx h2)
    clear h2
    have y0 := cell_of R_1.out 0 _ rfl
    have yf := frozen_of R_1.out 0
    go_wp2_with fail
    refine (HMQ.out _).mono ?_
    rintro e wq ⟨rfl, rfl⟩
    go_wp2_with fail
    have h4 := set1 R_1.out (.slice none 0 0)
    have r0 := cell_of h4 0 _ rfl
    exact bodyPost_ret (v := .tuple #[.agg #[.slice none 0 0], .int .i64 2]) (by simp [results, Try.results63, go_sem, r0]) rfl ⟨none, 0, by rw [HE.out.2.1, HE.out.2.2], by rw [HE.out.1]; exact st_nil _, B1.out.setCell (p := ⟨w.heap.size + 1, 0, none⟩) (Nat.le_succ _) _⟩
  have hf : fLim lim m0 = ({ m0 with lim := lim }, 0) := by unfold fLim; rw [if_pos h2]
  have HMQ := Lib.hid (fun wx => rmoney_q lim true wx h2)
  have HED := Lib.hid (show chgF ms t (fLim lim) = edF ms ({ m0 with lim := lim } : Me) by rw [chg_ed HFS.out (by rw [hf]) (by rw [hf]), hf])
  have hvm := (fs_ok HFS.out).2.choose_spec.choose_spec.2.2.2.2
  have HOK := Lib.hid (show OkM ({ m0 with lim := lim } : Me) by have := ok_lim lim m0 (val_ok hvm) hvm (by rw [hf]); rw [hf] at this; exact this)
  clear hf hvm h2
  have mf := frozen_of M_1.out 3
  have mc := cell_of M_1.out 3 _ rfl
  have hXR := blk_lt R_1.out
  have hXS := blk_lt S_1.out
  have hWX : w.heap.size + 1 < XM := HXM.out
  have M9 := Lib.hid (mbox3 M_1.out (.int .i64 lim))
  have S9 := Lib.hid (set_other (i := 3) S_1.out (show XM ≠ w.heap.size by omega) (.int .i64 lim))
  have R9 := Lib.hid (set_other (i := 3) R_1.out (show XM ≠ w.heap.size + 1 by omega) (.int .i64 lim))
  have B9 := Lib.hid (B1.out.setCell (p := ⟨XM, 3, none⟩) (show w.heap.size ≤ XM by omega) (.int .i64 lim))
  have ho9 := Lib.hid (ho_1.out.far (p := ⟨XM, 3, none⟩) (own_blk ho_1.out M_1.out (by decide)) (.int .i64 lim))
  have hs9 := Lib.hid (HS0.out.below B9.out)
  have s9 := cell_of S9.out 0 _ rfl
  have m90 := cell_of M9.out 0 _ rfl
  have m91 := cell_of M9.out 1 _ rfl
  have m92 := cell_of M9.out 2 _ rfl
  have m93 := cell_of M9.out 3 _ rfl
  have m94 := cell_of M9.out 4 _ rfl
  go_wp2_with fail
  refine (HMQ.out _).mono ?_
  rintro e wq ⟨rfl, rfl⟩
  go_wp2_with fail
  clear s9 m90 m91 m92 m93 m94 mf mc
  generalize World.setCell _ ⟨XM, 3, none⟩ _ = w9 at M9 S9 R9 B9 ho9 hs9 ⊢
  refine (s_ended a am c cm n n' ms ms' ({ m0 with lim := lim } : Me) er w9 (HED.out.symm.trans HR.out) HN.out HN'.out (by omega) HLN.out HOK.out hs9.out (ho9.out.lower' (Nat.zero_le _))).mono ?_
  rintro e v9 ⟨a9, c9, rfl, hS9, hb⟩
  have R9 := blk_keep R9.out hb
  have B9 := bt B9.out hb (Nat.le_refl _)
  have y0 := cell_of R9 0 _ rfl
  have yf := frozen_of R9 0
  have HR9 := Lib.hid R9
  have HB9 := Lib.hid B9
  have HS9 := Lib.hid hS9
  clear R9 B9 hS9 hb
  go_wp2_with fail
  have h5 := set1 HR9.out (.slice a9 n' c9)
  have r0 := cell_of h5 0 _ rfl
  exact bodyPost_ret (v := .tuple #[.agg #[.slice a9 n' c9], .int .i64 er]) (by simp [results, Try.results63, go_sem, r0]) rfl ⟨a9, c9, rfl, HS9.out.box HR9.out (fun s e => by cases e), HB9.out.setCell (p := ⟨w.heap.size + 1, 0, none⟩) (Nat.le_succ _) _⟩
set_option maxRecDepth 100000 in
set_option maxHeartbeats 8000000 in
theorem w_suspend (a : Option Addr) (c n : Nat) (ms : List Me) (t : ByteArray) (is : Bool) (ms' : List Me) (n' : Nat) (er : Int) (w : World) (hr : chgF ms t (fSus is) = (ms', er)) (hn : ms.length = n) (hn' : ms'.length = n') (h0 : n ≤ 80) (hZ : OkMs ms) (hS : St w a ms) :
    Calls Try.prog 64 #[.agg #[.slice a n c], .string t, .bool is] w (SW ms' n' er w) := by
  have hb0 := blk_twoB w (.cells #[.slice a n c] 24) (.cells #[.slice none 0 0] 24)
  have HS0 := Lib.hid hS
  have HX := Lib.hid (blk_two w (.cells #[.slice a n c] 24) (.cells #[.slice none 0 0] 24))
  have HS := Lib.hid hS
  have HN := Lib.hid hn
  have HN' := Lib.hid hn'
  have HZ := Lib.hid hZ
  have HR := Lib.hid hr
  have HLN := Lib.hid (show ∀ m ∈ ms, m.ac.length ≤ 1000 from fun m hm => (hZ m hm).len)
  obtain ⟨m0, hm0⟩ : ∃ m, m = (fsF ms t).1 := ⟨_, rfl⟩
  obtain ⟨e0, he0⟩ : ∃ e, e = (fsF ms t).2 := ⟨_, rfl⟩
  have HFS := Lib.hid (show fsF ms t = (m0, e0) by rw [hm0, he0])
  clear hS hn hn' hZ hr hm0 he0
  go_enter Try.func64, Try.ntmps64
  go_wp2_with fail
  have B0 := Lib.hid hb0
  have S_0 := Lib.hid HX.out.1
  have R_0 := Lib.hid HX.out.2
  have hs_0 := Lib.hid (HS.out.below hb0)
  clear hb0 HX HS
  generalize (w.alloc _).alloc _ = w0 at B0 S_0 R_0 hs_0 ⊢
  refine (s_first a c n ms t m0 e0 w0 HFS.out HN.out (by omega) HZ.out hs_0.out).mono ?_
  rintro e v1 ⟨am, cm, rfl, hO, hb⟩
  have hb0 := hb
  have hRlt := blk_lt (blk_keep R_0.out hb)
  have hal : Below v1.heap.size v1 (v1.alloc (.cells #[.string m0.nm, .int .u8 m0.ro, .bool m0.su, .int .i64 m0.lim, .slice am m0.ac.length cm] 30)) := (Below.refl _ _).alloc (Nat.le_refl _) _
  have hnw := blk_new v1 (.cells #[.string m0.nm, .int .u8 m0.ro, .bool m0.su, .int .i64 m0.lim, .slice am m0.ac.length cm] 30)
  obtain ⟨XM, hX⟩ : ∃ X, X = v1.heap.size := ⟨_, rfl⟩
  have B1 := Lib.hid (bt (bt B0.out hb (Nat.le_refl _)) hal (Nat.le_refl _))
  have S_1 := Lib.hid (blk_keep (blk_keep S_0.out hb) hal)
  have R_1 := Lib.hid (blk_keep (blk_keep R_0.out hb) hal)
  have hs_1 := Lib.hid ((hs_0.out.below hb).below hal)
  have ho_1 := Lib.hid ((hO).below hal)
  rw [← hX] at hnw
  have M_1 := Lib.hid hnw
  clear hb hb0 B0 S_0 R_0 hs_0 hO
  go_upto_region 2 with fail
  have HXM := Lib.hid (show w.heap.size + 1 < XM by rw [hX]; exact hRlt)
  clear hRlt
  rw [← hX]
  clear hX
  clear hal hnw
  generalize v1.alloc _ = w1 at B1 S_1 R_1 hs_1 ho_1 M_1 ⊢
  by_cases h1 : e0 = 0
  case neg =>
    have b1 : (e0 == 0) = false := by simpa using h1
    have b2 : (e0 != 0) = true := by simpa using h1
    have HE := Lib.hid (show ms' = [] ∧ n' = 0 ∧ er = e0 by
      have h := HR.out
      rw [chg_bad HFS.out h1] at h
      injection h with h1 h2
      exact ⟨h1.symm, by rw [← HN'.out, ← h1]; rfl, h2.symm⟩)
    clear h1
    have y0 := cell_of R_1.out 0 _ rfl
    have yf := frozen_of R_1.out 0
    go_wp2_with fail
    have h4 := set1 R_1.out (.slice none 0 0)
    have r0 := cell_of h4 0 _ rfl
    exact bodyPost_ret (v := .tuple #[.agg #[.slice none 0 0], .int .i64 e0]) (by simp [results, Try.results64, go_sem, r0]) rfl ⟨none, 0, by rw [HE.out.2.1, HE.out.2.2], by rw [HE.out.1]; exact st_nil _, B1.out.setCell (p := ⟨w.heap.size + 1, 0, none⟩) (Nat.le_succ _) _⟩
  subst h1
  by_cases h2 : m0.su = is
  case pos =>
    have HE := Lib.hid (show ms' = [] ∧ n' = 0 ∧ er = 20 by
      have h := HR.out
      rw [chg_er (f := fSus is) (e := 20) HFS.out (by unfold fSus; rw [if_pos h2]) (by decide)] at h
      injection h with h1 h2
      exact ⟨h1.symm, by rw [← HN'.out, ← h1]; rfl, h2.symm⟩)
    obtain ⟨su, hsu⟩ : ∃ b, b = m0.su := ⟨_, rfl⟩
    have lm := cell_of M_1.out 2 _ rfl
    rw [← hsu] at lm
    have h3 : su = is := hsu.trans h2
    clear h2 hsu
    subst h3
    have b1 : (su == su) = true := by simp
    have y0 := cell_of R_1.out 0 _ rfl
    have yf := frozen_of R_1.out 0
    go_wp2_with fail
    have h4 := set1 R_1.out (.slice none 0 0)
    have r0 := cell_of h4 0 _ rfl
    exact bodyPost_ret (v := .tuple #[.agg #[.slice none 0 0], .int .i64 20]) (by simp [results, Try.results64, go_sem, r0]) rfl ⟨none, 0, by rw [HE.out.2.1, HE.out.2.2], by rw [HE.out.1]; exact st_nil _, B1.out.setCell (p := ⟨w.heap.size + 1, 0, none⟩) (Nat.le_succ _) _⟩
  have hf : fSus is m0 = ({ m0 with su := is }, 0) := by unfold fSus; rw [if_neg h2]
  obtain ⟨su, hsu⟩ : ∃ b, b = m0.su := ⟨_, rfl⟩
  have lm := cell_of M_1.out 2 _ rfl
  rw [← hsu] at lm
  have b1 : (su == is) = false := by rw [hsu]; simpa using h2
  clear hsu
  have HED := Lib.hid (show chgF ms t (fSus is) = edF ms ({ m0 with su := is } : Me) by rw [chg_ed HFS.out (by rw [hf]) (by rw [hf]), hf])
  have hvm := (fs_ok HFS.out).2.choose_spec.choose_spec.2.2.2.2
  have HOK := Lib.hid (show OkM ({ m0 with su := is } : Me) by have := ok_sus is m0 (val_ok hvm) hvm (by rw [hf]); rw [hf] at this; exact this)
  clear hf hvm h2
  have mf := frozen_of M_1.out 2
  have mc := cell_of M_1.out 2 _ rfl
  have hXR := blk_lt R_1.out
  have hXS := blk_lt S_1.out
  have hWX : w.heap.size + 1 < XM := HXM.out
  have M9 := Lib.hid (mbox2 M_1.out (.bool is))
  have S9 := Lib.hid (set_other (i := 2) S_1.out (show XM ≠ w.heap.size by omega) (.bool is))
  have R9 := Lib.hid (set_other (i := 2) R_1.out (show XM ≠ w.heap.size + 1 by omega) (.bool is))
  have B9 := Lib.hid (B1.out.setCell (p := ⟨XM, 2, none⟩) (show w.heap.size ≤ XM by omega) (.bool is))
  have ho9 := Lib.hid (ho_1.out.far (p := ⟨XM, 2, none⟩) (own_blk ho_1.out M_1.out (by decide)) (.bool is))
  have hs9 := Lib.hid (HS0.out.below B9.out)
  have s9 := cell_of S9.out 0 _ rfl
  have m90 := cell_of M9.out 0 _ rfl
  have m91 := cell_of M9.out 1 _ rfl
  have m92 := cell_of M9.out 2 _ rfl
  have m93 := cell_of M9.out 3 _ rfl
  have m94 := cell_of M9.out 4 _ rfl
  go_wp2_with fail
  clear s9 m90 m91 m92 m93 m94 mf mc
  generalize World.setCell _ ⟨XM, 2, none⟩ _ = w9 at M9 S9 R9 B9 ho9 hs9 ⊢
  refine (s_ended a am c cm n n' ms ms' ({ m0 with su := is } : Me) er w9 (HED.out.symm.trans HR.out) HN.out HN'.out (by omega) HLN.out HOK.out hs9.out (ho9.out.lower' (Nat.zero_le _))).mono ?_
  rintro e v9 ⟨a9, c9, rfl, hS9, hb⟩
  have R9 := blk_keep R9.out hb
  have B9 := bt B9.out hb (Nat.le_refl _)
  have y0 := cell_of R9 0 _ rfl
  have yf := frozen_of R9 0
  have HR9 := Lib.hid R9
  have HB9 := Lib.hid B9
  have HS9 := Lib.hid hS9
  clear R9 B9 hS9 hb
  go_wp2_with fail
  have h5 := set1 HR9.out (.slice a9 n' c9)
  have r0 := cell_of h5 0 _ rfl
  exact bodyPost_ret (v := .tuple #[.agg #[.slice a9 n' c9], .int .i64 er]) (by simp [results, Try.results64, go_sem, r0]) rfl ⟨a9, c9, rfl, HS9.out.box HR9.out (fun s e => by cases e), HB9.out.setCell (p := ⟨w.heap.size + 1, 0, none⟩) (Nat.le_succ _) _⟩
end Go.Proofs.Ytoemjpfoddeinaa.Mb
