/-
  Member: Join of the reference.
-/
import Derived.Test.YtoemjpfoddeinaaMwG
namespace Go.Proofs.Ytoemjpfoddeinaa.Mb
open Go.RowKit Go.Proofs.Ytoemjpfoddeinaa Go.Proofs.Ytoemjpfoddeinaa.Ls Go.Proofs.Ytoemjpfoddeinaa.Kb
open Go.Proofs.Ytoemjpfoddeinaa.Nm hiding ret_bool ret_int

theorem val_new (t : ByteArray) (ro lim : Int) : val (newM t ro lim) = (party t && (ro == 1 || ro == 2) && mon lim) := by
  have h : val (newM t ro lim) = (party t && (ro == 1 || ro == 2) && mon lim && decide ((0 : Nat) ≤ 16) && true && true && decide ((0 : Int) ≤ lim)) := rfl
  rw [h]
  cases e : mon lim
  · simp
  · have : (0 : Int) ≤ lim := by unfold mon at e; simp at e; omega
    simp [this]
theorem join_no {ms : List Me} {t : ByteArray} {ro lim : Int} (h : chk ms = 0) (hv : val (newM t ro lim) = false) : joinF ms t ro lim = ([], 2) := by unfold joinF; rw [if_pos h, hv]; rfl
theorem join_twice {ms : List Me} {t : ByteArray} {ro lim : Int} (h : chk ms = 0) (hv : val (newM t ro lim) = true) (hh : has (nms ms) t = true) : joinF ms t ro lim = ([], 24) := by unfold joinF; rw [if_pos h, if_pos hv, if_pos hh]
theorem join_full {ms : List Me} {t : ByteArray} {ro lim : Int} (h : chk ms = 0) (hv : val (newM t ro lim) = true) (hh : has (nms ms) t = false) (hl : ms.length = 64) : joinF ms t ro lim = ([], 22) := by unfold joinF; rw [if_pos h, if_pos hv, hh, if_neg (by decide), if_pos hl]
theorem join_yes {ms : List Me} {t : ByteArray} {ro lim : Int} (h : chk ms = 0) (hv : val (newM t ro lim) = true) (hh : has (nms ms) t = false) (hl : ¬ ms.length = 64) : joinF ms t ro lim = (withF ms (newM t ro lim), 0) := by
  obtain ⟨L, R, rfl, hL, hR⟩ := split_no h hh
  unfold joinF
  rw [if_pos h, if_pos hv, hh, if_neg (by decide), if_neg hl, with_ins (m := newM t ro lim) hL hR]
  rw [pos_lo hL (by intro x hx; exact lt_asymm (hR x (List.mem_of_mem_head? hx))), ins_mid]

set_option maxRecDepth 100000 in
set_option maxHeartbeats 8000000 in
theorem w_join (a : Option Addr) (c n : Nat) (ms : List Me) (t : ByteArray) (ro lim : Int) (ht : t.size ≤ maxLen) (_hro : 0 ≤ ro ∧ ro ≤ 255) (_hlim : i64 lim) (ms' : List Me) (n' : Nat) (er : Int) (w : World) (hr : joinF ms t ro lim = (ms', er)) (hn : ms.length = n) (hn' : ms'.length = n') (h0 : n ≤ 80) (hZ : OkMs ms) (hS : St w a ms) :
    Calls Try.prog 61 #[.agg #[.slice a n c], .string t, .int .u8 ro, .int .i64 lim] w (SW ms' n' er w) := by
  have hb0 := blk_twoB w (.cells #[.slice a n c] 24) (.cells #[.slice none 0 0] 24)
  have HX := Lib.hid (blk_two w (.cells #[.slice a n c] 24) (.cells #[.slice none 0 0] 24))
  have HS := Lib.hid hS
  have HN := Lib.hid hn
  have HN' := Lib.hid hn'
  have HZ := Lib.hid hZ
  have HR := Lib.hid hr
  have HLN := Lib.hid (show ∀ m ∈ ms, m.ac.length ≤ 1000 from fun m hm => (hZ m hm).len)
  obtain ⟨m0, hm0⟩ : ∃ m, m = (fsF ms t).1 := ⟨_, rfl⟩
  obtain ⟨e0, he0⟩ : ∃ e, e = (fsF ms t).2 := ⟨_, rfl⟩
  have HFS := Lib.hid (show fsF ms t = (m0, e0) by rw [hm0, he0])
  clear hS hn hn' hZ hr hm0 he0
  go_enter Try.func61, Try.ntmps61
  go_wp2_with fail
  have B0 := Lib.hid hb0
  have S_0 := Lib.hid HX.out.1
  have R_0 := Lib.hid HX.out.2
  have hs_0 := Lib.hid (HS.out.below hb0)
  clear hb0 HX HS
  generalize (w.alloc _).alloc _ = w0 at B0 S_0 R_0 hs_0 ⊢
  clear HFS
  obtain ⟨p, hp⟩ : ∃ p, p = party t := ⟨_, rfl⟩
  have HPQ := Lib.hid (fun wx => rparty_q t p wx ht hp.symm)
  obtain ⟨mo, hmo⟩ : ∃ p, p = mon lim := ⟨_, rfl⟩
  have HMQ := Lib.hid (fun wx => rmoney_q lim mo wx hmo.symm)
  have HVN := Lib.hid (show val (newM t ro lim) = (p && (ro == 1 || ro == 2) && mo) by rw [val_new, hp, hmo])
  clear hp hmo
  rcases chk_cases ms with hc | hc
  case inr =>
    refine (s_rcheck a c n ms 8 w0 hc HN.out (by omega) HZ.out hs_0.out).mono ?_
    rintro e v1 ⟨rfl, hb⟩
    have hb0 := hb
    have B1 := Lib.hid (bt B0.out hb (Nat.le_refl _))
    have S_1 := Lib.hid (blk_keep S_0.out hb)
    have R_1 := Lib.hid (blk_keep R_0.out hb)
    have hs_1 := Lib.hid (hs_0.out.below hb)
    clear hb hb0 B0 S_0 R_0 hs_0 
    go_upto_region 2 with fail
    have HE := Lib.hid (show ms' = [] ∧ n' = 0 ∧ er = 8 by
      have h := HR.out
      rw [show joinF ms t ro lim = ([], 8) by unfold joinF; rw [if_neg (by rw [hc]; decide)]] at h
      injection h with h1 h2
      exact ⟨h1.symm, by rw [← HN'.out, ← h1]; rfl, h2.symm⟩)
    clear hc
    have y0 := cell_of R_1.out 0 _ rfl
    have yf := frozen_of R_1.out 0
    go_wp2_with fail
    have h4 := set1 R_1.out (.slice none 0 0)
    have r0 := cell_of h4 0 _ rfl
    exact bodyPost_ret (v := .tuple #[.agg #[.slice none 0 0], .int .i64 8]) (by simp [results, Try.results61, go_sem, r0]) rfl ⟨none, 0, by rw [HE.out.2.1, HE.out.2.2], by rw [HE.out.1]; exact st_nil _, B1.out.setCell (p := ⟨w.heap.size + 1, 0, none⟩) (Nat.le_succ _) _⟩
  case inl =>
    have HC := Lib.hid hc
    have hl64 : n ≤ 64 := by have := ((chk_iff _).1 hc).1; have := HN.out; omega
    refine (s_rcheck a c n ms 0 w0 hc HN.out (by omega) HZ.out hs_0.out).mono ?_
    rintro e v1 ⟨rfl, hb⟩
    have hb0 := hb
    have B1 := Lib.hid (bt B0.out hb (Nat.le_refl _))
    have S_1 := Lib.hid (blk_keep S_0.out hb)
    have R_1 := Lib.hid (blk_keep R_0.out hb)
    have hs_1 := Lib.hid (hs_0.out.below hb)
    clear hb hb0 B0 S_0 R_0 hs_0 
    go_wp2_with fail
    clear hc
    cases p
    case false =>
      have HE := Lib.hid (show ms' = [] ∧ n' = 0 ∧ er = 2 by
        have h := HR.out
        rw [join_no HC.out (by rw [HVN.out]; rfl)] at h
        injection h with h1 h2
        exact ⟨h1.symm, by rw [← HN'.out, ← h1]; rfl, h2.symm⟩)
      refine (HPQ.out _).mono ?_
      rintro e wq ⟨rfl, rfl⟩
      have y0 := cell_of R_1.out 0 _ rfl
      have yf := frozen_of R_1.out 0
      go_wp2_with fail
      have h4 := set1 R_1.out (.slice none 0 0)
      have r0 := cell_of h4 0 _ rfl
      exact bodyPost_ret (v := .tuple #[.agg #[.slice none 0 0], .int .i64 2]) (by simp [results, Try.results61, go_sem, r0]) rfl ⟨none, 0, by rw [HE.out.2.1, HE.out.2.2], by rw [HE.out.1]; exact st_nil _, B1.out.setCell (p := ⟨w.heap.size + 1, 0, none⟩) (Nat.le_succ _) _⟩
    case true =>
      by_cases h3 : ro = 1 ∨ ro = 2
      case neg =>
        have r1 : (ro != 1) = true := by simp; omega
        have r2 : (ro != 2) = true := by simp; omega
        have r3 : ¬ ro = 1 := by omega
        have r4 : ¬ ro = 2 := by omega
        have HE := Lib.hid (show ms' = [] ∧ n' = 0 ∧ er = 2 by
          have h := HR.out
          rw [join_no HC.out (by rw [HVN.out, show (ro == 1) = false by simp; omega, show (ro == 2) = false by simp; omega]; rfl)] at h
          injection h with h1 h2
          exact ⟨h1.symm, by rw [← HN'.out, ← h1]; rfl, h2.symm⟩)
        clear h3
        refine (HPQ.out _).mono ?_
        rintro e wq ⟨rfl, rfl⟩
        have y0 := cell_of R_1.out 0 _ rfl
        have yf := frozen_of R_1.out 0
        go_wp2_with fail
        have h4 := set1 R_1.out (.slice none 0 0)
        have r0 := cell_of h4 0 _ rfl
        exact bodyPost_ret (v := .tuple #[.agg #[.slice none 0 0], .int .i64 2]) (by simp [results, Try.results61, go_sem, r0]) rfl ⟨none, 0, by rw [HE.out.2.1, HE.out.2.2], by rw [HE.out.1]; exact st_nil _, B1.out.setCell (p := ⟨w.heap.size + 1, 0, none⟩) (Nat.le_succ _) _⟩
      have HRO := Lib.hid (show (ro == 1 || ro == 2) = true by rcases h3 with rfl | rfl <;> rfl)
      obtain ⟨b1, hb1⟩ : ∃ b1, b1 = (ro != 1) := ⟨_, rfl⟩
      have r1 := hb1.symm
      have r2 : (ro != 2) = !b1 := by rw [hb1]; rcases h3 with rfl | rfl <;> rfl
      clear hb1 h3
      cases mo
      case false =>
        have HE := Lib.hid (show ms' = [] ∧ n' = 0 ∧ er = 2 by
          have h := HR.out
          rw [join_no HC.out (by rw [HVN.out, HRO.out]; rfl)] at h
          injection h with h1 h2
          exact ⟨h1.symm, by rw [← HN'.out, ← h1]; rfl, h2.symm⟩)
        have y0 := cell_of R_1.out 0 _ rfl
        have yf := frozen_of R_1.out 0
        refine (HPQ.out _).mono ?_
        rintro e wq ⟨rfl, rfl⟩
        cases b1
        all_goals
          go_wp2_with fail
          refine (HMQ.out _).mono ?_
          rintro e wq ⟨rfl, rfl⟩
          go_wp2_with fail
          have h4 := set1 R_1.out (.slice none 0 0)
          have r0 := cell_of h4 0 _ rfl
          exact bodyPost_ret (v := .tuple #[.agg #[.slice none 0 0], .int .i64 2]) (by simp [results, Try.results61, go_sem, r0]) rfl ⟨none, 0, by rw [HE.out.2.1, HE.out.2.2], by rw [HE.out.1]; exact st_nil _, B1.out.setCell (p := ⟨w.heap.size + 1, 0, none⟩) (Nat.le_succ _) _⟩
      case true =>
        have HVT := Lib.hid (show val (newM t ro lim) = true by rw [HVN.out, HRO.out]; rfl)
        refine (HPQ.out _).mono ?_
        rintro e wq ⟨rfl, rfl⟩
        cases b1
        all_goals
          have s0 := cell_of S_1.out 0 _ rfl
          go_wp2_with fail
          refine (HMQ.out _).mono ?_
          rintro e wq ⟨rfl, rfl⟩
          go_wp2_with fail
          clear s0
          obtain ⟨hh, hhh⟩ : ∃ h, h = has (nms ms) t := ⟨_, rfl⟩
          have HFD := Lib.hid (show fdM ms t = (if hh then at_ ms t else me0, hh) by rw [fd_has HC.out, ← hhh]; cases hh <;> rfl)
          obtain ⟨mf, hmf⟩ : ∃ m, m = (if hh then at_ ms t else me0) := ⟨_, rfl⟩
          rw [← hmf] at HFD
          have HHH := Lib.hid hhh
          clear hmf hhh
          refine (s_rfind a c n ms t mf mf.ac.length hh _ HFD.out HN.out rfl (by omega) hs_1.out).mono ?_
          rintro e v2 ⟨af, cf, rfl, hAf, hb⟩
          have hb0 := hb
          have hal : Below v2.heap.size v2 (v2.alloc (.cells #[.string mf.nm, .int .u8 mf.ro, .bool mf.su, .int .i64 mf.lim, .slice af mf.ac.length cf] 30)) := (Below.refl _ _).alloc (Nat.le_refl _) _
          have hnw := blk_new v2 (.cells #[.string mf.nm, .int .u8 mf.ro, .bool mf.su, .int .i64 mf.lim, .slice af mf.ac.length cf] 30)
          have B2 := Lib.hid (bt (bt B1.out hb (Nat.le_refl _)) hal (Nat.le_refl _))
          have S_2 := Lib.hid (blk_keep (blk_keep S_1.out hb) hal)
          have R_2 := Lib.hid (blk_keep (blk_keep R_1.out hb) hal)
          have hs_2 := Lib.hid ((hs_1.out.below hb).below hal)
          clear hb hb0 B1 S_1 R_1 hs_1 hAf
          go_upto_region 6 with fail
          clear hal hnw
          generalize v2.alloc _ = w2 at B2 S_2 R_2 hs_2 ⊢
          cases hh
          case true =>
            have HE := Lib.hid (show ms' = [] ∧ n' = 0 ∧ er = 24 by
              have h := HR.out
              rw [join_twice HC.out HVT.out HHH.out.symm] at h
              injection h with h1 h2
              exact ⟨h1.symm, by rw [← HN'.out, ← h1]; rfl, h2.symm⟩)
            have y0 := cell_of R_2.out 0 _ rfl
            have yf := frozen_of R_2.out 0
            go_wp2_with fail
            have h4 := set1 R_2.out (.slice none 0 0)
            have r0 := cell_of h4 0 _ rfl
            exact bodyPost_ret (v := .tuple #[.agg #[.slice none 0 0], .int .i64 24]) (by simp [results, Try.results61, go_sem, r0]) rfl ⟨none, 0, by rw [HE.out.2.1, HE.out.2.2], by rw [HE.out.1]; exact st_nil _, B2.out.setCell (p := ⟨w.heap.size + 1, 0, none⟩) (Nat.le_succ _) _⟩
          case false =>
            have s0 := cell_of S_2.out 0 _ rfl
            by_cases h64 : n = 64
            case pos =>
              have HE := Lib.hid (show ms' = [] ∧ n' = 0 ∧ er = 22 by
                have h := HR.out
                rw [join_full HC.out HVT.out HHH.out.symm (HN.out.trans h64)] at h
                injection h with h1 h2
                exact ⟨h1.symm, by rw [← HN'.out, ← h1]; rfl, h2.symm⟩)
              have k64 : (64 : Int) ≤ (n : Int) := by omega
              clear h64
              have y0 := cell_of R_2.out 0 _ rfl
              have yf := frozen_of R_2.out 0
              go_wp2_with fail
              have h4 := set1 R_2.out (.slice none 0 0)
              have r0 := cell_of h4 0 _ rfl
              exact bodyPost_ret (v := .tuple #[.agg #[.slice none 0 0], .int .i64 22]) (by simp [results, Try.results61, go_sem, r0]) rfl ⟨none, 0, by rw [HE.out.2.1, HE.out.2.2], by rw [HE.out.1]; exact st_nil _, B2.out.setCell (p := ⟨w.heap.size + 1, 0, none⟩) (Nat.le_succ _) _⟩
            have HW := Lib.hid (show withF ms (newM t ro lim) = ms' ∧ er = 0 by
              have h := HR.out
              rw [join_yes HC.out HVT.out HHH.out.symm (fun e => h64 (HN.out.symm.trans e))] at h
              injection h with h1 h2
              exact ⟨h1, h2.symm⟩)
            have k64 : ¬ (64 : Int) ≤ (n : Int) := by omega
            clear h64
            go_wp2_with fail
            refine (s_with a none c 0 n n' ms ms' (newM t ro lim) _ HW.out.1 HN.out HN'.out (by omega) HLN.out hs_2.out (OwnL.nil _ _ _ _ _)).mono ?_
            rintro e v9 ⟨a9, c9, rfl, hS9, hb⟩
            clear s0
            have R9 := blk_keep R_2.out hb
            have B9 := bt B2.out hb (Nat.le_refl _)
            have y0 := cell_of R9 0 _ rfl
            have yf := frozen_of R9 0
            have HR9 := Lib.hid R9
            have HB9 := Lib.hid B9
            have HS9 := Lib.hid hS9
            clear R9 B9 hS9 hb
            go_wp2_with fail
            have h5 := set1 HR9.out (.slice a9 n' c9)
            have r0 := cell_of h5 0 _ rfl
            exact bodyPost_ret (v := .tuple #[.agg #[.slice a9 n' c9], .int .i64 0]) (by simp [results, Try.results61, go_sem, r0]) rfl ⟨a9, c9, by rw [HW.out.2], HS9.out.box HR9.out (fun s e => by cases e), HB9.out.setCell (p := ⟨w.heap.size + 1, 0, none⟩) (Nat.le_succ _) _⟩
end Go.Proofs.Ytoemjpfoddeinaa.Mb

namespace Go.Proofs.Ytoemjpfoddeinaa.Mb
open Go.RowKit Go.Proofs.Ytoemjpfoddeinaa Go.Proofs.Ytoemjpfoddeinaa.Ls Go.Proofs.Ytoemjpfoddeinaa.Kb
open Go.Proofs.Ytoemjpfoddeinaa.Nm hiding ret_bool ret_int

theorem oth_takeL (ms : List Me) (t : ByteArray) (k : Nat) (h : k < ms.length) : oth (ms.take (k + 1)) t = oth (ms.take k) t ++ (if (gm ms k).nm = t then [] else [gm ms k]) := by
  rw [take_succ_m ms k h]
  unfold oth
  rw [List.filter_append, List.filter_cons]
  by_cases hx : (gm ms k).nm = t <;> simp [hx]
theorem leave_oth {ms : List Me} {t : ByteArray} {m0 : Me} (h : fsF ms t = (m0, 0)) (hx : ex m0.ac = 0) : leaveF ms t = (oth ms t, 0) := by
  obtain ⟨hc, L, R, rfl, hm, hL, hR, _⟩ := fs_ok h
  rw [leave_eq hc hL hm, if_pos hx, oth_mid hL hR hm]
theorem leave_used {ms : List Me} {t : ByteArray} {m0 : Me} (h : fsF ms t = (m0, 0)) (hx : ex m0.ac ≠ 0) : leaveF ms t = ([], 20) := by
  obtain ⟨hc, L, R, rfl, hm, hL, hR, _⟩ := fs_ok h
  rw [leave_eq hc hL hm, if_neg hx]
theorem leave_bad {ms : List Me} {t : ByteArray} {m0 : Me} {e : Int} (h : fsF ms t = (m0, e)) (he : e ≠ 0) : leaveF ms t = ([], e) := by
  have := (fs_bad h he).2
  unfold leaveF
  rw [if_neg (by rw [this]; exact he), this]

set_option maxRecDepth 100000 in
set_option maxHeartbeats 8000000 in
theorem w_leave (a : Option Addr) (c n : Nat) (ms : List Me) (t : ByteArray)  (ms' : List Me) (n' : Nat) (er : Int) (w : World) (hr : leaveF ms t = (ms', er)) (hn : ms.length = n) (hn' : ms'.length = n') (h0 : n ≤ 80) (hZ : OkMs ms) (hS : St w a ms) :
    Calls Try.prog 62 #[.agg #[.slice a n c], .string t] w (SW ms' n' er w) := by
  have hb0 := blk_twoB w (.cells #[.slice a n c] 24) (.cells #[.slice none 0 0] 24)
  have HS0 := Lib.hid hS
  have HX := Lib.hid (blk_two w (.cells #[.slice a n c] 24) (.cells #[.slice none 0 0] 24))
  have HS := Lib.hid hS
  have HN := Lib.hid hn
  have HN' := Lib.hid hn'
  have HZ := Lib.hid hZ
  have HR := Lib.hid hr
  have HLN := Lib.hid (show ∀ m ∈ ms, m.ac.length ≤ 1000 from fun m hm => (hZ m hm).len)
  obtain ⟨m0, hm0⟩ : ∃ m, m = (fsF ms t).1 := ⟨_, rfl⟩
  obtain ⟨e0, he0⟩ : ∃ e, e = (fsF ms t).2 := ⟨_, rfl⟩
  have HFS := Lib.hid (show fsF ms t = (m0, e0) by rw [hm0, he0])
  clear hS hn hn' hZ hr hm0 he0
  go_enter Try.func62, Try.ntmps62
  go_wp2_with fail
  have B0 := Lib.hid hb0
  have S_0 := Lib.hid HX.out.1
  have R_0 := Lib.hid HX.out.2
  have hs_0 := Lib.hid (HS.out.below hb0)
  clear hb0 HX HS
  generalize (w.alloc _).alloc _ = w0 at B0 S_0 R_0 hs_0 ⊢
  refine (s_first a c n ms t m0 e0 w0 HFS.out HN.out (by omega) HZ.out hs_0.out).mono ?_
  rintro e v1 ⟨am, cm, rfl, hO, hb⟩
  have hb0 := hb
  have hRlt := blk_lt (blk_keep R_0.out hb)
  have hal : Below v1.heap.size v1 (v1.alloc (.cells #[.string m0.nm, .int .u8 m0.ro, .bool m0.su, .int .i64 m0.lim, .slice am m0.ac.length cm] 30)) := (Below.refl _ _).alloc (Nat.le_refl _) _
  have hnw := blk_new v1 (.cells #[.string m0.nm, .int .u8 m0.ro, .bool m0.su, .int .i64 m0.lim, .slice am m0.ac.length cm] 30)
  obtain ⟨XM, hX⟩ : ∃ X, X = v1.heap.size := ⟨_, rfl⟩
  have B1 := Lib.hid (bt (bt B0.out hb (Nat.le_refl _)) hal (Nat.le_refl _))
  have S_1 := Lib.hid (blk_keep (blk_keep S_0.out hb) hal)
  have R_1 := Lib.hid (blk_keep (blk_keep R_0.out hb) hal)
  have hs_1 := Lib.hid ((hs_0.out.below hb).below hal)
  have ho_1 := Lib.hid ((hO).below hal)
  rw [← hX] at hnw
  have M_1 := Lib.hid hnw
  clear hb hb0 B0 S_0 R_0 hs_0 hO
  go_upto_region 2 with fail
  have HXM := Lib.hid (show w.heap.size + 1 < XM by rw [hX]; exact hRlt)
  clear hRlt
  rw [← hX]
  clear hX
  clear hal hnw
  generalize v1.alloc _ = w1 at B1 S_1 R_1 hs_1 ho_1 M_1 ⊢
  have HFF := Lib.hid (fs_facts HFS.out)
  by_cases h1 : e0 = 0
  case neg =>
    have b1 : (e0 == 0) = false := by simpa using h1
    have b2 : (e0 != 0) = true := by simpa using h1
    have HE := Lib.hid (show ms' = [] ∧ n' = 0 ∧ er = e0 by
      have h := HR.out
      rw [leave_bad HFS.out h1] at h
      injection h with h1 h2
      exact ⟨h1.symm, by rw [← HN'.out, ← h1]; rfl, h2.symm⟩)
    clear h1
    have y0 := cell_of R_1.out 0 _ rfl
    have yf := frozen_of R_1.out 0
    go_wp2_with fail
    have h4 := set1 R_1.out (.slice none 0 0)
    have r0 := cell_of h4 0 _ rfl
    exact bodyPost_ret (v := .tuple #[.agg #[.slice none 0 0], .int .i64 e0]) (by simp [results, Try.results62, go_sem, r0]) rfl ⟨none, 0, by rw [HE.out.2.1, HE.out.2.2], by rw [HE.out.1]; exact st_nil _, B1.out.setCell (p := ⟨w.heap.size + 1, 0, none⟩) (Nat.le_succ _) _⟩
  subst h1
  have lq0 := cell_of M_1.out 0 _ rfl
  have lq1 := cell_of M_1.out 1 _ rfl
  have lq2 := cell_of M_1.out 2 _ rfl
  have lq3 := cell_of M_1.out 3 _ rfl
  have lq4 := cell_of M_1.out 4 _ rfl
  have ll0 := blk_lt M_1.out
  go_wp2_with fail
  clear lq0 lq1 lq2 lq3 lq4 ll0
  obtain ⟨E, hE⟩ : ∃ x, x = ex m0.ac := ⟨_, rfl⟩
  have HEX := Lib.hid hE.symm
  clear hE
  refine (s_rused am cm m0 E w1 HEX.out HFF.out.1 (fun y hy => by have := HFF.out.2.2 y hy; omega) (ho_1.out.sl acc_len).1).mono ?_
  rintro e v2 ⟨rfl, hb⟩
  have hb0 := hb
  have B2 := Lib.hid (bt B1.out hb (Nat.le_refl _))
  have S_2 := Lib.hid (blk_keep S_1.out hb)
  have R_2 := Lib.hid (blk_keep R_1.out hb)
  have hs_2 := Lib.hid (hs_1.out.below hb)
  have ho_2 := Lib.hid (ho_1.out.below hb)
  have M_2 := Lib.hid (blk_keep M_1.out hb)
  clear hb hb0 B1 S_1 R_1 hs_1 ho_1 M_1 
  have hstop := trivial
  clear hstop
  by_cases h2 : E = 0
  case neg =>
    have HE := Lib.hid (show ms' = [] ∧ n' = 0 ∧ er = 20 by
      have h := HR.out
      rw [leave_used HFS.out (by rw [HEX.out]; exact h2)] at h
      injection h with h1 h2
      exact ⟨h1.symm, by rw [← HN'.out, ← h1]; rfl, h2.symm⟩)
    have b3 : (E != 0) = true := by simpa using h2
    clear h2
    have y0 := cell_of R_2.out 0 _ rfl
    have yf := frozen_of R_2.out 0
    go_wp2_with fail
    have h4 := set1 R_2.out (.slice none 0 0)
    have r0 := cell_of h4 0 _ rfl
    exact bodyPost_ret (v := .tuple #[.agg #[.slice none 0 0], .int .i64 20]) (by simp [results, Try.results62, go_sem, r0]) rfl ⟨none, 0, by rw [HE.out.2.1, HE.out.2.2], by rw [HE.out.1]; exact st_nil _, B2.out.setCell (p := ⟨w.heap.size + 1, 0, none⟩) (Nat.le_succ _) _⟩
  subst h2
  have HW := Lib.hid (show oth ms t = ms' ∧ er = 0 by
    have h := HR.out
    rw [leave_oth HFS.out HEX.out] at h
    injection h with h1 h2
    exact ⟨h1, h2.symm⟩)
  have hal : Below v2.heap.size v2 (v2.alloc (.cells #[.slice none 0 0] 24)) := (Below.refl _ _).alloc (Nat.le_refl _) _
  have hnw := blk_new v2 (.cells #[.slice none 0 0] 24)
  obtain ⟨XO, hX⟩ : ∃ X, X = v2.heap.size := ⟨_, rfl⟩
  have hRO : w.heap.size + 1 < XO := by rw [hX]; exact blk_lt R_2.out
  rw [← hX] at hnw
  have OL := Lib.hid hnw
  have SL := Lib.hid (blk_keep S_2.out hal)
  have RL := Lib.hid (blk_keep R_2.out hal)
  have BL := Lib.hid (bt B2.out hal (Nat.le_refl _))
  clear hal hnw
  go_wp2_with fail
  rw [← hX]
  clear hX
  generalize v2.alloc _ = wl at OL SL RL BL ⊢
  obtain ⟨B, hB⟩ : ∃ B, B = XO + 1 := ⟨_, rfl⟩
  go_loopw [9] (fun i wr => ∃ (k : Nat) (ys : List P) (u : Value), k ≤ n ∧ i = .int .i64 k ∧ Hid (fst ys = oth (ms.take k) t) ∧ Hid (OwnL wr B 30 5 mec u ys) ∧ Hid (Rw wr ys) ∧ Hid (wr.heap[w.heap.size]? = some (.cells #[.slice a n c] 24 (0, 0))) ∧ Hid (wr.heap[w.heap.size + 1]? = some (.cells #[.slice none 0 0] 24 (0, 0))) ∧
      Hid (wr.heap[XO]? = some (.cells #[u] 24 (0, 0))) ∧ Hid (Below w.heap.size w wr)) (fun i _ => n - (intOf i).toNat)
  case atStart => exact ⟨0, [], .slice none 0 0, by omega, rfl, rfl, OwnL.nil _ _ _ _ _, Rw.nil _, SL, RL, OL, BL⟩
  case round =>
    clear OL SL RL BL
    obtain ⟨k, ys, u, hk, rfl, HY, HO, HW2, HS1, HR1, HO1, HB1⟩ := hrel
    have hlen : ys.length ≤ k := by rw [← fst_len, HY.out]; exact oth_take_le _ _ _
    have hBs : B ≤ wr.heap.size := by rw [hB]; exact blk_lt HO1.out
    have x0 := cell_of HS1.out 0 _ rfl
    by_cases hlt : k < n
    · have k0 : (0 : Int) ≤ k := by omega
      have k1 : (k : Int) < n := by omega
      obtain ⟨b, off, pa, pc, rfl, q0, q1, q2, q3, q4, hac⟩ := (HS0.out.below HB1.out).at k (by rw [HN.out]; exact hlt)
      have HTK := Lib.hid (oth_takeL ms t k (by rw [HN.out]; exact hlt))
      have HLX := Lib.hid (HLN.out _ (gm_mem ms k (by rw [HN.out]; exact hlt)))
      generalize gm ms k = x at q0 q1 q2 q3 q4 hac HTK HLX
      by_cases hx : x.nm = t
      · have HT2 := Lib.hid (show oth (ms.take (k + 1)) t = oth (ms.take k) t by rw [HTK.out, if_pos hx, List.append_nil])
        have g1 := neq_no hx
        have g2 := eq_yes hx
        clear hx hac q1 q2 q3 q4 HTK
        go_wp2_with fail
        go_roundw
        case rel => exact ⟨k + 1, ys, u, by omega, by go_num, by rw [HT2.out]; exact HY, HO, HW2, HS1, HR1, HO1, HB1⟩
        case measure => simp [intOf]; omega
      · have HT2 := Lib.hid (show oth (ms.take (k + 1)) t = oth (ms.take k) t ++ [x] by rw [HTK.out, if_neg hx])
        have g1 := neq_yes hx
        have g2 := eq_no hx
        have HTW := Lib.hid (fun wx (h : Below wr.heap.size wr wx) => rtwin_any (x, (pa, pc)) wx HLX.out (hac.below h))
        have t0 := cell_of HO1.out 0 _ rfl
        have hT1 := blk_lt HO1.out
        have k0' : Below wr.heap.size wr wr := Below.refl _ _
        have kd' := k0'.drew
        clear hx hac HTK
        go_wp2_with fail
        go_region_law (first
            | (refine step_append_L (P := Try.prog) (α := P) rfl _ _ _ rfl 30 (Value.agg #[.string ⟨#[]⟩, .int .u8 0, .bool false, .int .i64 0, .slice none 0 0]) 5 56 Try.underlying22 info_mec rfl (by decide) B mec u ys (x, (a5, c5)) w5.heap.size #[.string x.nm, .int .u8 x.ro, .bool x.su, .int .i64 x.lim, .slice a5 x.ac.length c5] (by rfl) (by rfl) (by first | exact HO5.out.below ((Below.refl _ _).alloc (Nat.le_refl _) _) | exact HO5.out.below ((Below.refl _ _).drew.alloc (Nat.le_refl _) _) | exact HO5.out.below ((Below.refl _ _).alloc (Nat.le_refl _) _).drew) (by first | exact blk_new _ _ | exact blk_new w5 _) rfl rfl (mec_one _) (by unfold maxLen; omega) (by omega) (by simp; omega) ?_; intro g9 c9 w9 ho9 hg9 hat9; have HE := Lib.hid (app_endW (y := (x, (a5, c5))) (OUT := XO) HB5.out HO5.out HW5.out HN5.out (by first | exact (Below.refl _ _).alloc (Nat.le_refl _) _ | exact ((Below.refl _ _).alloc (Nat.le_refl _) _).drew | exact (Below.refl _ _).drew.alloc (Nat.le_refl _) _) hg9 ho9 HT5.out (by omega) (by omega)); have n0 := cell_of HE.out.1 0 _ rfl; have nf := frozen_of HE.out.1 0)
            | (go_simp; go_at_call 36; refine (HTW.out _ (by first | assumption | exact Below.drew (by assumption))).mono ?_; rintro e w5 ⟨a5, c5, rfl, ho5, hb5⟩; have k5 : Below wr.heap.size wr w5 := bt (by first | assumption | exact Below.drew (by assumption)) hb5 (Nat.le_refl _); have HO5 := Lib.hid (HO.out.below k5); have HW5 := Lib.hid (HW2.out.below k5); have HT5 := Lib.hid (blk_keep HO1.out k5); have HB5 := Lib.hid (bt HB1.out k5 (Nat.le_refl _)); have HN5 := Lib.hid (show OwnL w5 0 32 4 acc (.slice a5 x.ac.length c5) x.ac from ho5.lower' (Nat.zero_le _)); have hT5 := blk_lt HT5.out; have h5B : B ≤ w5.heap.size := Nat.le_trans hBs k5.size; have t5 := cell_of HT5.out 0 _ rfl))
        all_goals
          have HS9 := Lib.hid (HE.out.2.2.2.2.1 w.heap.size _ (by omega) (by omega) (blk_keep HS1.out k5))
          have HR9 := Lib.hid (HE.out.2.2.2.2.1 (w.heap.size + 1) _ (by omega) (by omega) (blk_keep HR1.out k5))
          clear hg9 ho9 hat9
          go_wp2
          go_roundw
          case rel => exact ⟨k + 1, _, _, by omega, by go_num, by rw [HT2.out]; exact (fst_snoc _ _).trans (congrArg (fun l => l ++ [x]) HY.out), HE.out.2.2.1, HE.out.2.2.2.1, HS9, HR9, HE.out.2.1, HE.out.2.2.2.2.2⟩
          case measure => simp [intOf]; omega
    · obtain rfl : k = n := by omega
      obtain ⟨ao, co, rfl, _, _, _⟩ := HO.out.read mec_len
      have hk1 : ¬ (k : Int) < k := by omega
      have HYL := Lib.hid (show fst ys = ms' by rw [HY.out, List.take_of_length_le (by rw [HN.out]; omega)]; exact HW.out.1)
      have HLE := Lib.hid (show ys.length = n' by rw [← fst_len, HYL.out]; exact HN'.out)
      have o0 := cell_of HO1.out 0 _ rfl
      have r0 := cell_of HR1.out 0 _ rfl
      have rf := frozen_of HR1.out 0
      go_wp2_with fail
      have h5 := set1 HR1.out (.slice ao ys.length co)
      have s0 := cell_of h5 0 _ rfl
      have hst : St wr ao ms' := ⟨ys, HYL.out, at_rw HO.out HW2.out⟩
      exact bodyPost_ret (v := .tuple #[.agg #[.slice ao ys.length co], .int .i64 0]) (by simp [results, Try.results62, go_sem, s0]) rfl ⟨ao, co, by rw [HW.out.2, HLE.out], hst.box HR1.out (fun s e => by cases e), HB1.out.setCell (p := ⟨w.heap.size + 1, 0, none⟩) (Nat.le_succ _) _⟩
end Go.Proofs.Ytoemjpfoddeinaa.Mb
