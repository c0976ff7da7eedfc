/-
  Member: Open of the reference.
-/
import Derived.Test.YtoemjpfoddeinaaMwK
import Derived.Test.YtoemjpfoddeinaaMwQ
namespace Go.Proofs.Ytoemjpfoddeinaa.Mb
open Go.RowKit Go.Proofs.Ytoemjpfoddeinaa Go.Proofs.Ytoemjpfoddeinaa.Ls Go.Proofs.Ytoemjpfoddeinaa.Kb
open Go.Proofs.Ytoemjpfoddeinaa.Nm hiding ret_bool ret_int

theorem ga_app {A B : List Ac} {k : Nat} (h : k < A.length) : ga (A ++ B) k ∈ A := by
  unfold ga
  rw [List.getD_eq_getElem?_getD, List.getElem?_append_left h, List.getElem?_eq_getElem h]
  exact List.getElem_mem h
theorem ga_app2 {A B : List Ac} {k : Nat} (h : A.length ≤ k) (hk : k < (A ++ B).length) : ga (A ++ B) k ∈ B := by
  rw [List.length_append] at hk
  unfold ga
  rw [List.getD_eq_getElem?_getD, List.getElem?_append_right h, List.getElem?_eq_getElem (show k - A.length < B.length by omega)]
  exact List.getElem_mem _
/-- what is written out after k rounds: q tells whether the new account is in -/
def opL (A B : List Ac) (x : Ac) (k : Nat) (q : Bool) : List Ac := if q then A ++ x :: ((A ++ B).take k).drop A.length else (A ++ B).take k
theorem take_succ_ga (l : List Ac) (k : Nat) (h : k < l.length) : l.take (k + 1) = l.take k ++ [ga l k] := by
  rw [List.take_succ_eq_append_getElem h]
  congr 2
  unfold ga
  rw [List.getD_eq_getElem?_getD, List.getElem?_eq_getElem h]
  rfl
theorem opL_no {A B : List Ac} {x : Ac} {k : Nat} (h : k < (A ++ B).length) : opL A B x (k + 1) false = opL A B x k false ++ [ga (A ++ B) k] := take_succ_ga _ _ h
theorem opL_yes {A B : List Ac} {x : Ac} {k : Nat} (h : k < (A ++ B).length) (hA : A.length ≤ k) : opL A B x (k + 1) true = opL A B x k true ++ [ga (A ++ B) k] := by
  unfold opL
  rw [if_pos rfl, if_pos rfl, take_succ_ga _ _ h, List.drop_append_of_le_length (by rw [List.length_take]; omega)]
  simp
theorem opL_put {A B : List Ac} {x : Ac} : opL A B x A.length true = opL A B x A.length false ++ [x] := by
  unfold opL
  rw [if_pos rfl, if_neg (by decide), List.drop_of_length_le (by rw [List.length_take]; omega)]
  simp
theorem opL_end {A B : List Ac} {x : Ac} {k : Nat} (h : (A ++ B).length = k) : opL A B x k true = A ++ x :: B := by
  unfold opL
  rw [if_pos rfl, List.take_of_length_le (by omega)]
  simp
theorem opL_len {A B : List Ac} {x : Ac} {k : Nat} {q : Bool} (h : k ≤ (A ++ B).length) (hq : q = decide (A.length < k)) : (opL A B x k q).length ≤ k + 1 := by
  unfold opL
  rw [hq]
  by_cases e : A.length < k
  · rw [if_pos (decide_eq_true e), List.length_append, List.length_cons, List.length_drop, List.length_take]
    omega
  · rw [if_neg (by simpa using e), List.length_take]
    omega
theorem open_su {t : ByteArray} {cl : Bool} {lim : Int} {m : Me} (h : m.su = true) : (fOpen t cl lim m).2 = 20 := by unfold fOpen; rw [if_pos h]
theorem open_arg {t : ByteArray} {cl : Bool} {lim : Int} {m : Me} (h : m.su = false) (h2 : (!nm t || (cl && (m.ro == 2)) || !mon lim) = true) : (fOpen t cl lim m).2 = 2 := by unfold fOpen; rw [h, if_neg (by decide), if_pos h2]
theorem open_twice {t : ByteArray} {cl : Bool} {lim : Int} {m : Me} (h : m.su = false) (h2 : (!nm t || (cl && (m.ro == 2)) || !mon lim) = false) (h3 : has (nas m.ac) t = true) : (fOpen t cl lim m).2 = 24 := by unfold fOpen; rw [h, if_neg (by decide), h2, if_neg (by decide), if_pos h3]
theorem open_full {t : ByteArray} {cl : Bool} {lim : Int} {m : Me} (h : m.su = false) (h2 : (!nm t || (cl && (m.ro == 2)) || !mon lim) = false) (h3 : ¬ has (nas m.ac) t = true) (h4 : m.ac.length = 16) : (fOpen t cl lim m).2 = 22 := by unfold fOpen; rw [h, if_neg (by decide), h2, if_neg (by decide), if_neg h3, if_pos h4]
theorem open_yes {t : ByteArray} {cl : Bool} {lim : Int} {m : Me} (h : m.su = false) (h2 : (!nm t || (cl && (m.ro == 2)) || !mon lim) = false) (h3 : ¬ has (nas m.ac) t = true) (h4 : ¬ m.ac.length = 16) : (fOpen t cl lim m).2 = 0 := by unfold fOpen; rw [h, if_neg (by decide), h2, if_neg (by decide), if_neg h3, if_neg h4]

set_option maxRecDepth 100000 in
set_option maxHeartbeats 8000000 in
theorem w_open (a : Option Addr) (c n : Nat) (ms : List Me) (t : ByteArray) (t2 : ByteArray) (cl : Bool) (lim : Int) (ht2 : t2.size ≤ maxLen) (_hlim : i64 lim) (ms' : List Me) (n' : Nat) (er : Int) (w : World) (hr : chgF ms t (fOpen t2 cl lim) = (ms', er)) (hn : ms.length = n) (hn' : ms'.length = n') (h0 : n ≤ 80) (hZ : OkMs ms) (hS : St w a ms) :
    Calls Try.prog 65 #[.agg #[.slice a n c], .string t, .string t2, .bool cl, .int .i64 lim] w (SW ms' n' er w) := by
  have hb0 := blk_twoB w (.cells #[.slice a n c] 24) (.cells #[.slice none 0 0] 24)
  have HS0 := Lib.hid hS
  have HX := Lib.hid (blk_two w (.cells #[.slice a n c] 24) (.cells #[.slice none 0 0] 24))
  have HS := Lib.hid hS
  have HN := Lib.hid hn
  have HN' := Lib.hid hn'
  have HZ := Lib.hid hZ
  have HR := Lib.hid hr
  have HLN := Lib.hid (show ∀ m ∈ ms, m.ac.length ≤ 1000 from fun m hm => (hZ m hm).len)
  obtain ⟨m0, hm0⟩ : ∃ m, m = (fsF ms t).1 := ⟨_, rfl⟩
  obtain ⟨e0, he0⟩ : ∃ e, e = (fsF ms t).2 := ⟨_, rfl⟩
  have HFS := Lib.hid (show fsF ms t = (m0, e0) by rw [hm0, he0])
  clear hS hn hn' hZ hr hm0 he0
  go_enter Try.func65, Try.ntmps65
  go_wp2_with fail
  have B0 := Lib.hid hb0
  have S_0 := Lib.hid HX.out.1
  have R_0 := Lib.hid HX.out.2
  have hs_0 := Lib.hid (HS.out.below hb0)
  clear hb0 HX HS
  generalize (w.alloc _).alloc _ = w0 at B0 S_0 R_0 hs_0 ⊢
  refine (s_first a c n ms t m0 e0 w0 HFS.out HN.out (by omega) HZ.out hs_0.out).mono ?_
  rintro e v1 ⟨am, cm, rfl, hO, hb⟩
  have hb0 := hb
  have HWO := Lib.hid (show w.heap.size + 1 + 1 ≤ w0.heap.size from blk_lt R_0.out)
  have hRlt := blk_lt (blk_keep R_0.out hb)
  have hal : Below v1.heap.size v1 (v1.alloc (.cells #[.string m0.nm, .int .u8 m0.ro, .bool m0.su, .int .i64 m0.lim, .slice am m0.ac.length cm] 30)) := (Below.refl _ _).alloc (Nat.le_refl _) _
  have hnw := blk_new v1 (.cells #[.string m0.nm, .int .u8 m0.ro, .bool m0.su, .int .i64 m0.lim, .slice am m0.ac.length cm] 30)
  obtain ⟨XM, hX⟩ : ∃ X, X = v1.heap.size := ⟨_, rfl⟩
  have B1 := Lib.hid (bt (bt B0.out hb (Nat.le_refl _)) hal (Nat.le_refl _))
  have S_1 := Lib.hid (blk_keep (blk_keep S_0.out hb) hal)
  have R_1 := Lib.hid (blk_keep (blk_keep R_0.out hb) hal)
  have hs_1 := Lib.hid ((hs_0.out.below hb).below hal)
  have ho_1 := Lib.hid ((hO).below hal)
  rw [← hX] at hnw
  have M_1 := Lib.hid hnw
  clear hb hb0 B0 S_0 R_0 hs_0 hO
  go_upto_region 2 with fail
  have HXM := Lib.hid (show w.heap.size + 1 < XM by rw [hX]; exact hRlt)
  clear hRlt
  rw [← hX]
  clear hX
  clear hal hnw
  generalize v1.alloc _ = w1 at B1 S_1 R_1 hs_1 ho_1 M_1 ⊢
  obtain ⟨p, hp⟩ : ∃ p, p = nm t2 := ⟨_, rfl⟩
  have HNQ := Lib.hid (fun wx => rname_q t2 wx p ht2 hp.symm)
  obtain ⟨mo, hmo⟩ : ∃ p, p = mon lim := ⟨_, rfl⟩
  have HMQ := Lib.hid (fun wx => rmoney_q lim mo wx hmo.symm)
  have HP := Lib.hid hp.symm
  have HMO := Lib.hid hmo.symm
  have HTS := Lib.hid ht2
  clear hp hmo ht2
  have HFF := Lib.hid (fs_facts HFS.out)
  by_cases h1 : e0 = 0
  case neg =>
    have b1 : (e0 == 0) = false := by simpa using h1
    have b2 : (e0 != 0) = true := by simpa using h1
    have HE := Lib.hid (show ms' = [] ∧ n' = 0 ∧ er = e0 by
      have h := HR.out
      rw [chg_bad HFS.out h1] at h
      injection h with h1 h2
      exact ⟨h1.symm, by rw [← HN'.out, ← h1]; rfl, h2.symm⟩)
    clear h1
    have y0 := cell_of R_1.out 0 _ rfl
    have yf := frozen_of R_1.out 0
    go_wp2_with fail
    have h4 := set1 R_1.out (.slice none 0 0)
    have r0 := cell_of h4 0 _ rfl
    exact bodyPost_ret (v := .tuple #[.agg #[.slice none 0 0], .int .i64 e0]) (by simp [results, Try.results65, go_sem, r0]) rfl ⟨none, 0, by rw [HE.out.2.1, HE.out.2.2], by rw [HE.out.1]; exact st_nil _, B1.out.setCell (p := ⟨w.heap.size + 1, 0, none⟩) (Nat.le_succ _) _⟩
  subst h1
  have hvm := (fs_ok HFS.out).2.choose_spec.choose_spec.2.2.2.2
  have HVM := Lib.hid hvm
  clear hvm
  obtain ⟨su, hsu⟩ : ∃ b, b = m0.su := ⟨_, rfl⟩
  have lm := cell_of M_1.out 2 _ rfl
  rw [← hsu] at lm
  have HSU := Lib.hid hsu.symm
  clear hsu
  cases su
  case true =>
    have HE := Lib.hid (show ms' = [] ∧ n' = 0 ∧ er = 20 by
      have h := HR.out
      rw [chg_er (f := fOpen t2 cl lim) (e := 20) HFS.out (open_su HSU.out) (by decide)] at h
      injection h with h1 h2
      exact ⟨h1.symm, by rw [← HN'.out, ← h1]; rfl, h2.symm⟩)
    go_upto_region 4 with fail
    clear lm
    have y0 := cell_of R_1.out 0 _ rfl
    have yf := frozen_of R_1.out 0
    go_wp2_with fail
    have h4 := set1 R_1.out (.slice none 0 0)
    have r0 := cell_of h4 0 _ rfl
    exact bodyPost_ret (v := .tuple #[.agg #[.slice none 0 0], .int .i64 20]) (by simp [results, Try.results65, go_sem, r0]) rfl ⟨none, 0, by rw [HE.out.2.1, HE.out.2.2], by rw [HE.out.1]; exact st_nil _, B1.out.setCell (p := ⟨w.heap.size + 1, 0, none⟩) (Nat.le_succ _) _⟩
  case false =>
    go_upto_region 5 with fail
    clear lm
    cases p
    case false =>
      have HE := Lib.hid (show ms' = [] ∧ n' = 0 ∧ er = 2 by
        have h := HR.out
        rw [chg_er (f := fOpen t2 cl lim) (e := 2) HFS.out (open_arg HSU.out (by rw [HP.out]; rfl)) (by decide)] at h
        injection h with h1 h2
        exact ⟨h1.symm, by rw [← HN'.out, ← h1]; rfl, h2.symm⟩)
      go_wp2_with fail
      refine (HNQ.out _).mono ?_
      rintro e wq ⟨rfl, hwq⟩
      subst wq
      have y0 := cell_of R_1.out 0 _ rfl
      have yf := frozen_of R_1.out 0
      go_wp2_with fail
      have h4 := set1 R_1.out (.slice none 0 0)
      have r0 := cell_of h4 0 _ rfl
      exact bodyPost_ret (v := .tuple #[.agg #[.slice none 0 0], .int .i64 2]) (by simp [results, Try.results65, go_sem, r0]) rfl ⟨none, 0, by rw [HE.out.2.1, HE.out.2.2], by rw [HE.out.1]; exact st_nil _, B1.out.setCell (p := ⟨w.heap.size + 1, 0, none⟩) (Nat.le_succ _) _⟩
    case true =>
      obtain ⟨cr, hcr⟩ : ∃ b, b = (cl && (m0.ro == 2)) := ⟨_, rfl⟩
      have HCR := Lib.hid hcr.symm
      obtain ⟨r2, hr2⟩ : ∃ b, b = (m0.ro == 2) := ⟨_, rfl⟩
      have q2 := hr2.symm
      rw [← hr2] at hcr
      clear hr2
      cases cr
      case true =>
        have HE := Lib.hid (show ms' = [] ∧ n' = 0 ∧ er = 2 by
          have h := HR.out
          rw [chg_er (f := fOpen t2 cl lim) (e := 2) HFS.out (open_arg HSU.out (by rw [HP.out, HCR.out]; rfl)) (by decide)] at h
          injection h with h1 h2
          exact ⟨h1.symm, by rw [← HN'.out, ← h1]; rfl, h2.symm⟩)
        cases cl
        all_goals cases r2
        all_goals try (exact absurd hcr (by decide))
        clear hcr
        have lr := cell_of M_1.out 1 _ rfl
        have ll := blk_lt M_1.out
        go_wp2_with fail
        refine (HNQ.out _).mono ?_
        rintro e wq ⟨rfl, hwq⟩
        subst wq
        have y0 := cell_of R_1.out 0 _ rfl
        have yf := frozen_of R_1.out 0
        go_wp2_with fail
        have h4 := set1 R_1.out (.slice none 0 0)
        have r0 := cell_of h4 0 _ rfl
        exact bodyPost_ret (v := .tuple #[.agg #[.slice none 0 0], .int .i64 2]) (by simp [results, Try.results65, go_sem, r0]) rfl ⟨none, 0, by rw [HE.out.2.1, HE.out.2.2], by rw [HE.out.1]; exact st_nil _, B1.out.setCell (p := ⟨w.heap.size + 1, 0, none⟩) (Nat.le_succ _) _⟩
      case false =>
        cases mo
        case false =>
          have HE := Lib.hid (show ms' = [] ∧ n' = 0 ∧ er = 2 by
            have h := HR.out
            rw [chg_er (f := fOpen t2 cl lim) (e := 2) HFS.out (open_arg HSU.out (by rw [HP.out, HCR.out, HMO.out]; rfl)) (by decide)] at h
            injection h with h1 h2
            exact ⟨h1.symm, by rw [← HN'.out, ← h1]; rfl, h2.symm⟩)
          have lr := cell_of M_1.out 1 _ rfl
          have ll := blk_lt M_1.out
          cases cl
          all_goals cases r2
          all_goals try (exact absurd hcr (by decide))
          all_goals
            clear hcr
            go_wp2_with fail
            refine (HNQ.out _).mono ?_
            rintro e wq ⟨rfl, hwq⟩
            subst wq
            go_wp2_with fail
            refine (HMQ.out _).mono ?_
            rintro e wq ⟨rfl, hwq⟩
            subst wq
            have y0 := cell_of R_1.out 0 _ rfl
            have yf := frozen_of R_1.out 0
            go_wp2_with fail
            have h4 := set1 R_1.out (.slice none 0 0)
            have r0 := cell_of h4 0 _ rfl
            exact bodyPost_ret (v := .tuple #[.agg #[.slice none 0 0], .int .i64 2]) (by simp [results, Try.results65, go_sem, r0]) rfl ⟨none, 0, by rw [HE.out.2.1, HE.out.2.2], by rw [HE.out.1]; exact st_nil _, B1.out.setCell (p := ⟨w.heap.size + 1, 0, none⟩) (Nat.le_succ _) _⟩
        case true =>
          have HAR := Lib.hid (show (!nm t2 || (cl && (m0.ro == 2)) || !mon lim) = false by rw [HP.out, HCR.out, HMO.out]; rfl)
          have lr := cell_of M_1.out 1 _ rfl
          have ll := blk_lt M_1.out
          obtain ⟨ai, hai⟩ : ∃ i, i = atF m0.ac t2 := ⟨_, rfl⟩
          have Hai := Lib.hid hai.symm
          clear hai
          have HCR2 := Lib.hid hcr
          obtain ⟨xn, hxn⟩ : ∃ x : Ac, x = ⟨t2, cl, lim, 0⟩ := ⟨_, rfl⟩
          have HXN := Lib.hid hxn
          clear hxn
          have hl16 : m0.ac.length ≤ 16 := (val_parts HVM.out).2.1
          cases cl
          all_goals cases r2
          all_goals try (exact absurd hcr (by decide))
          all_goals
            clear hcr
            go_wp2_with fail
            refine (HNQ.out _).mono ?_
            rintro e wq ⟨rfl, hwq⟩
            subst wq
            go_wp2_with fail
            refine (HMQ.out _).mono ?_
            rintro e wq ⟨rfl, hwq⟩
            subst wq
            have m90 := cell_of M_1.out 0 _ rfl
            have m91 := cell_of M_1.out 1 _ rfl
            have m92 := cell_of M_1.out 2 _ rfl
            have m93 := cell_of M_1.out 3 _ rfl
            have m94 := cell_of M_1.out 4 _ rfl
            go_wp2_with fail
            clear m90 m91 m92 m93 m94
            refine (s_rat am cm m0 t2 ai w1 Hai.out HFF.out.1 HFF.out.2.1 (ho_1.out.sl acc_len).1).mono ?_
            rintro e v2 ⟨rfl, hb⟩
            have hb0 := hb
            have B2 := Lib.hid (bt B1.out hb (Nat.le_refl _))
            have S_2 := Lib.hid (blk_keep S_1.out hb)
            have R_2 := Lib.hid (blk_keep R_1.out hb)
            have hs_2 := Lib.hid (hs_1.out.below hb)
            have ho_2 := Lib.hid (ho_1.out.below hb)
            have M_2 := Lib.hid (blk_keep M_1.out hb)
            clear hb hb0 B1 S_1 R_1 hs_1 ho_1 M_1 
            clear lr ll
            by_cases hh : has (nas m0.ac) t2 = true
            case pos =>
              obtain ⟨J, hJ⟩ : ∃ J : Nat, ai = (J : Int) := ⟨_, Hai.out.symm.trans (at_has HFS.out hh)⟩
              subst hJ
              have j1 : (0 : Int) ≤ J := by omega
              have HE := Lib.hid (show ms' = [] ∧ n' = 0 ∧ er = 24 by
                have h := HR.out
                rw [chg_er (f := fOpen t2 _ lim) (e := 24) HFS.out (open_twice HSU.out HAR.out hh) (by decide)] at h
                injection h with h1 h2
                exact ⟨h1.symm, by rw [← HN'.out, ← h1]; rfl, h2.symm⟩)
              clear hh
              have y0 := cell_of R_2.out 0 _ rfl
              have yf := frozen_of R_2.out 0
              go_wp2_with fail
              have h4 := set1 R_2.out (.slice none 0 0)
              have r0 := cell_of h4 0 _ rfl
              exact bodyPost_ret (v := .tuple #[.agg #[.slice none 0 0], .int .i64 24]) (by simp [results, Try.results65, go_sem, r0]) rfl ⟨none, 0, by rw [HE.out.2.1, HE.out.2.2], by rw [HE.out.1]; exact st_nil _, B2.out.setCell (p := ⟨w.heap.size + 1, 0, none⟩) (Nat.le_succ _) _⟩
            obtain rfl : ai = -1 := Hai.out.symm.trans (at_none hh)
            have l4 := cell_of M_2.out 4 _ rfl
            have ll := blk_lt M_2.out
            by_cases h16 : m0.ac.length = 16
            case pos =>
              have HE := Lib.hid (show ms' = [] ∧ n' = 0 ∧ er = 22 by
                have h := HR.out
                rw [chg_er (f := fOpen t2 _ lim) (e := 22) HFS.out (open_full HSU.out HAR.out hh h16) (by decide)] at h
                injection h with h1 h2
                exact ⟨h1.symm, by rw [← HN'.out, ← h1]; rfl, h2.symm⟩)
              have k16 : (16 : Int) ≤ (m0.ac.length : Int) := by omega
              clear h16 hh hl16
              have y0 := cell_of R_2.out 0 _ rfl
              have yf := frozen_of R_2.out 0
              go_wp2_with fail
              have h4 := set1 R_2.out (.slice none 0 0)
              have r0 := cell_of h4 0 _ rfl
              exact bodyPost_ret (v := .tuple #[.agg #[.slice none 0 0], .int .i64 22]) (by simp [results, Try.results65, go_sem, r0]) rfl ⟨none, 0, by rw [HE.out.2.1, HE.out.2.2], by rw [HE.out.1]; exact st_nil _, B2.out.setCell (p := ⟨w.heap.size + 1, 0, none⟩) (Nat.le_succ _) _⟩
            have k16 : ¬ (16 : Int) ≤ (m0.ac.length : Int) := by omega
            have hf2 := open_yes HSU.out HAR.out hh h16
            obtain ⟨_, A, B, hAB, hLo, hHi, hres⟩ := open_ac HVM.out hf2
            have hf : fOpen t2 _ lim m0 = (({ m0 with ac := A ++ xn :: B } : Me), 0) := Prod.ext (hres.trans (by rw [HXN.out])) hf2
            have HED := Lib.hid (show chgF ms t (fOpen t2 _ lim) = edF ms ({ m0 with ac := A ++ xn :: B } : Me) by rw [chg_ed HFS.out hf2 (by rw [hf]), hf])
            have HOK := Lib.hid (show OkM ({ m0 with ac := A ++ xn :: B } : Me) by have := ok_open t2 _ lim HTS.out m0 (val_ok HVM.out) HVM.out hf2; rw [hf] at this; exact this)
            clear hf hf2 hres h16 hh
            have HAB := Lib.hid hAB
            have HLO := Lib.hid hLo
            have HHI := Lib.hid hHi
            clear hAB hLo hHi
            obtain ⟨n0, hn0⟩ : ∃ N, N = m0.ac.length := ⟨_, rfl⟩
            have HNN := Lib.hid hn0.symm
            rw [← hn0] at l4 k16 hl16
            clear hn0
            have HAT := Lib.hid (ho_2.out.sl acc_len).1
            have HXB := Lib.hid M_2.out
            have HCAP := Lib.hid hl16
            go_upto_region 13 with fail
            clear l4 ll k16
            go_wp2_with fail
            obtain ⟨V, hV⟩ : ∃ V, V = v2 := ⟨_, rfl⟩
            clear hV
            go_loopw [14, 15, 16] (fun l q i wr => ∃ (k : Nat) (ys : List Ac) (pb : Bool) (oa : Option Addr) (nl oc : Nat), k ≤ n0 ∧ i = .int .i64 k ∧ q = .bool pb ∧ l = .slice oa nl oc ∧ Hid (ys.length = nl) ∧ Hid (pb = decide (A.length < k)) ∧ Hid (ys = opL A B xn k pb) ∧ Hid (OwnL wr v2.heap.size 32 4 acc (.slice oa nl oc) ys) ∧ Hid (Below v2.heap.size v2 wr)) (fun _ _ i _ => n0 - (intOf i).toNat)
            case atStart => exact ⟨0, [], false, none, 0, 0, by omega, rfl, rfl, rfl, rfl, Lib.hid (by rw [decide_eq_false (by omega)]), rfl, OwnL.nil _ _ _ _ _, Below.refl _ _⟩
            case round =>
              obtain ⟨k, ys, pb, oa, nl, oc, hk, rfl, rfl, rfl, HNL, HQ, HY, HO, HB⟩ := hrel
              have hyl : ys.length ≤ k + 1 := by rw [HY.out]; exact opL_len (by rw [← HAB.out, HNN.out]; exact hk) HQ.out
              obtain rfl := HNL.out
              have hcap := HCAP.out
              by_cases hlt : k < n0
              · have k0 : (0 : Int) ≤ k := by omega
                have k1 : (k : Int) < n0 := by omega
                obtain ⟨G, cur, rfl, -⟩ := ho_2.out.row (by rw [HNN.out]; omega)
                have HX4 := Lib.hid (show ∀ wx, Below v2.heap.size v2 wx → wx.cell? ⟨XM, 4, none⟩ = some (.slice (some ⟨G, 0, none⟩) n0 cm) from fun wx h => by rw [← HNN.out]; exact cell_of (blk_keep HXB.out h) 4 _ rfl)
                obtain ⟨y, hy⟩ : ∃ y, y = ga m0.ac k := ⟨_, rfl⟩
                have HYA := Lib.hid (show k < A.length → lt y.nm t2 = true from fun h => by rw [hy, HAB.out]; exact HLO.out _ (ga_app h))
                have HYB := Lib.hid (show A.length ≤ k → lt t2 y.nm = true from fun h => by rw [hy, HAB.out]; exact HHI.out _ (ga_app2 h (by rw [← HAB.out, HNN.out]; exact hlt)))
                have HP := Lib.hid (show ∀ wx, Below v2.heap.size v2 wx → wx.cell? ⟨G, k * 4, none⟩ = some (.string y.nm) ∧ wx.cell? ⟨G, k * 4 + 1, none⟩ = some (.bool y.cl) ∧ wx.cell? ⟨G, k * 4 + 2, none⟩ = some (.int .i64 y.lim) ∧ wx.cell? ⟨G, k * 4 + 3, none⟩ = some (.int .i64 y.us) from fun wx h => by
                  have q := at_a' (HAT.out.below h) k (by rw [HNN.out]; exact hlt)
                  simp only [Nat.zero_add] at q
                  rw [hy]
                  exact q)
                have HYE := Lib.hid (show y = ga (A ++ B) k by rw [hy, HAB.out])
                have HKL := Lib.hid (show k < (A ++ B).length by rw [← HAB.out, HNN.out]; exact hlt)
                clear hy
                obtain ⟨p0, p1, p2, p3⟩ := HP.out _ HB.out
                have x4 := HX4.out _ HB.out
                have hbs := HB.out.size
                have hXl := World.block_lt_of_cell? _ _ x4
                have hGl := World.block_lt_of_cell? _ _ p0
                by_cases hA : k < A.length
                · obtain rfl : pb = false := by rw [HQ.out, decide_eq_false (by omega)]
                  have g1 : Op.bytesLess y.nm.toList t2.toList = true := HYA.out hA
                  have g2 : (y.nm.toList == t2.toList) = false := eq_no (fun e => by have := HYA.out hA; rw [e, lt_irrefl] at this; cases this)
                  have HQ2 := Lib.hid (show false = decide (A.length < k + 1) by rw [decide_eq_false (by omega)])
                  clear hA
                  go_wp2_with (at_builtin; refine wpList_append_L (P := Try.prog) (α := Ac) rfl _ _ _ rfl 32 (Value.agg #[.string ⟨#[]⟩, .bool false, .int .i64 0, .int .i64 0]) 4 40 Try.underlying28 info_acc rfl (by decide) v2.heap.size acc (.slice oa ys.length oc) ys y wr.heap.size #[.string y.nm, .bool y.cl, .int .i64 y.lim, .int .i64 y.us] rfl rfl (HO.out.below ((Below.refl _ _).alloc (Nat.le_refl _) _)) (blk_new wr _) rfl (acc_len y) (acc_one y) (by unfold maxLen; omega) (by omega) (by simp; omega) ?_; intro g9 c9 w9 ho9 hg9 hat9)
                  go_roundw
                  case rel => exact ⟨k + 1, ys ++ [y], false, _, _, _, by omega, by go_num, rfl, rfl, Lib.hid (by simp), HQ2, Lib.hid (by rw [opL_no HKL.out, ← HY.out, ← HYE.out]), ho9, grown_far (bt HB.out ((Below.refl _ _).alloc (Nat.le_refl _) _) (Nat.le_refl _)) hg9 (fun b hb => (HO.out.lt b hb).1)⟩
                  case measure => simp [intOf]; omega
                · have g1 : Op.bytesLess y.nm.toList t2.toList = false := lt_asymm (HYB.out (by omega))
                  have g2 : (y.nm.toList == t2.toList) = false := eq_no (fun e => by have := HYB.out (by omega); rw [e, lt_irrefl] at this; cases this)
                  have HQ2 := Lib.hid (show true = decide (A.length < k + 1) by rw [decide_eq_true (by omega)])
                  by_cases hE : k = A.length
                  · obtain rfl : pb = false := by rw [HQ.out, decide_eq_false (by omega)]
                    have HYY := Lib.hid (show opL A B xn (k + 1) true = (ys ++ [xn]) ++ [y] by rw [opL_yes HKL.out (by omega), ← HYE.out, HY.out, hE, opL_put])
                    clear hE hA
                    go_wp2_with (first
                      | (at_builtin; refine wpList_append_L (P := Try.prog) (α := Ac) rfl _ _ _ rfl 32 (Value.agg #[.string ⟨#[]⟩, .bool false, .int .i64 0, .int .i64 0]) 4 40 Try.underlying28 info_acc rfl (by decide) v2.heap.size acc (.slice oa ys.length oc) ys xn wr.heap.size _ rfl rfl (HO.out.below ((Below.refl _ _).alloc (Nat.le_refl _) _)) (blk_new wr _) (by rw [HXN.out]; rfl) (acc_len xn) (acc_one xn) (by unfold maxLen; omega) (by omega) (by simp; omega) ?_; intro g9 c9 w9 ho9 hg9 hat9; have k9 := grown_far (bt HB.out ((Below.refl _ _).alloc (Nat.le_refl _) _) (Nat.le_refl _)) hg9 (fun b hb => (HO.out.lt b hb).1); have n0' := (HP.out _ k9).1; have n1' := (HP.out _ k9).2.1; have n2' := (HP.out _ k9).2.2.1; have n3' := (HP.out _ k9).2.2.2; have n4' := HX4.out _ k9; have hbs9 := k9.size; have hXl9 := World.block_lt_of_cell? _ _ n4'; have hGl9 := World.block_lt_of_cell? _ _ n0')
                      | (at_builtin; refine wpList_append_L (P := Try.prog) (α := Ac) rfl _ _ _ rfl 32 (Value.agg #[.string ⟨#[]⟩, .bool false, .int .i64 0, .int .i64 0]) 4 40 Try.underlying28 info_acc rfl (by decide) v2.heap.size acc (.slice (some ⟨g9, 0, none⟩) (ys.length + 1) c9) (ys ++ [xn]) y w9.heap.size #[.string y.nm, .bool y.cl, .int .i64 y.lim, .int .i64 y.us] rfl rfl (ho9.below ((Below.refl _ _).alloc (Nat.le_refl _) _)) (blk_new w9 _) rfl (acc_len y) (acc_one y) (by rw [List.length_append]; unfold maxLen; simp only [List.length_cons, List.length_nil]; omega) (by rw [List.length_append]; simp only [List.length_cons, List.length_nil]; omega) (by simp; omega) ?_; intro g8 c8 w8 ho8 hg8 hat8))
                    go_roundw
                    case rel => exact ⟨k + 1, (ys ++ [xn]) ++ [y], true, _, _, _, by omega, by go_num, rfl, rfl, Lib.hid (by simp), HQ2, Lib.hid HYY.out.symm, Lib.hid (by have h := ho8; rw [List.length_append] at h; exact h), grown_far (bt k9 ((Below.refl _ _).alloc (Nat.le_refl _) _) (Nat.le_refl _)) hg8 (fun b hb => (ho9.lt b hb).1)⟩
                    case measure => simp [intOf]; omega
                  · obtain rfl : pb = true := by rw [HQ.out, decide_eq_true (by omega)]
                    have HYY := Lib.hid (show opL A B xn (k + 1) true = ys ++ [y] by rw [opL_yes HKL.out (by omega), ← HYE.out, HY.out])
                    clear hE hA
                    go_wp2_with (at_builtin; refine wpList_append_L (P := Try.prog) (α := Ac) rfl _ _ _ rfl 32 (Value.agg #[.string ⟨#[]⟩, .bool false, .int .i64 0, .int .i64 0]) 4 40 Try.underlying28 info_acc rfl (by decide) v2.heap.size acc (.slice oa ys.length oc) ys y wr.heap.size #[.string y.nm, .bool y.cl, .int .i64 y.lim, .int .i64 y.us] rfl rfl (HO.out.below ((Below.refl _ _).alloc (Nat.le_refl _) _)) (blk_new wr _) rfl (acc_len y) (acc_one y) (by unfold maxLen; omega) (by omega) (by simp; omega) ?_; intro g9 c9 w9 ho9 hg9 hat9)
                    go_roundw
                    case rel => exact ⟨k + 1, ys ++ [y], true, _, _, _, by omega, by go_num, rfl, rfl, Lib.hid (by simp), HQ2, Lib.hid HYY.out.symm, ho9, grown_far (bt HB.out ((Below.refl _ _).alloc (Nat.le_refl _) _) (Nat.le_refl _)) hg9 (fun b hb => (HO.out.lt b hb).1)⟩
                    case measure => simp [intOf]; omega
              · obtain rfl : k = n0 := by omega
                have k1 : ¬ (k : Int) < (m0.ac.length : Int) := by rw [HNN.out]; omega
                have hbs := HB.out.size
                have hB1 := HB.out
                clear hcap
                have HABL := Lib.hid (show (A ++ B).length = k by rw [← HAB.out]; exact HNN.out)
                have x40 := cell_of (blk_keep HXB.out HB.out) 4 _ rfl
                have hXl0 := World.block_lt_of_cell? _ _ x40
                cases pb
                case true =>
                  obtain ⟨NL, hNL⟩ : ∃ N, N = ys.length := ⟨_, rfl⟩
                  have HE := Lib.hid (show ys = A ++ xn :: B by rw [HY.out]; exact opL_end HABL.out)
                  have HNE := Lib.hid (show (A ++ xn :: B).length = NL by rw [hNL, HE.out])
                  have HO2 := Lib.hid (show OwnL wr v2.heap.size 32 4 acc (.slice oa NL oc) (A ++ xn :: B) by rw [← HE.out, hNL]; exact HO.out)
                  rw [← hNL]
                  clear hNL
                  go_upto_region 24 with fail
                  clear x40 hXl0
                  have B3 := Lib.hid (bt B2.out hB1 (Nat.le_refl _))
                  have S_3 := Lib.hid (blk_keep S_2.out hB1)
                  have R_3 := Lib.hid (blk_keep R_2.out hB1)
                  have hs_3 := Lib.hid (hs_2.out.below hB1)
                  have ho_3 := Lib.hid (ho_2.out.below hB1)
                  have M_3 := Lib.hid (blk_keep M_2.out hB1)
                  have HO9 := Lib.hid (show OwnL wr v2.heap.size 32 4 acc (.slice oa NL oc) (A ++ xn :: B) from HO2.out)
                  have hWX := HXM.out
                  have hXv := blk_lt HXB.out
                  have hXG : ∀ b, (Value.slice oa NL oc).ownBlock = some b → b ≠ XM := fun b hb e => by
                    have h1 := (HO9.out.lt b hb).1
                    omega
                  have x4 := cell_of M_3.out 4 _ rfl
                  have xf := frozen_of M_3.out 4
                  have hXl := blk_lt M_3.out
                  have M9 := Lib.hid (mbox4 M_3.out (.slice oa NL oc))
                  have S9 := Lib.hid (set_other (i := 4) S_3.out (show XM ≠ w.heap.size by omega) (.slice oa NL oc))
                  have R9 := Lib.hid (set_other (i := 4) R_3.out (show XM ≠ w.heap.size + 1 by omega) (.slice oa NL oc))
                  have B9 := Lib.hid (B3.out.setCell (p := ⟨XM, 4, none⟩) (show w.heap.size ≤ XM by omega) (.slice oa NL oc))
                  have ho9' := Lib.hid (HO9.out.far (p := ⟨XM, 4, none⟩) (fun h => hXG _ h rfl) (.slice oa NL oc))
                  have hs9 := Lib.hid (HS0.out.below B9.out)
                  clear hXG
                  have s9 := cell_of S9.out 0 _ rfl
                  have m90 := cell_of M9.out 0 _ rfl
                  have m91 := cell_of M9.out 1 _ rfl
                  have m92 := cell_of M9.out 2 _ rfl
                  have m93 := cell_of M9.out 3 _ rfl
                  have m94 := cell_of M9.out 4 _ rfl
                  go_wp2_with fail
                  clear s9 m90 m91 m92 m93 m94 x4 xf
                  generalize World.setCell _ ⟨XM, 4, none⟩ _ = w10 at M9 S9 R9 B9 ho9' hs9 ⊢
                  have HEN := Lib.hid (show Calls Try.prog 89 #[.agg #[.slice a n c], .agg #[.string m0.nm, .int .u8 m0.ro, .bool false, .int .i64 m0.lim, .slice oa NL oc]] w10 (SW ms' n' er w10) from by
                    have h := s_endedN a oa c oc n n' NL ms ms' ({ m0 with ac := A ++ xn :: B } : Me) er w10 (HED.out.symm.trans HR.out) HN.out HN'.out (by omega) HLN.out HOK.out hs9.out (ho9'.out.lower' (Nat.zero_le _)) HNE.out
                    dsimp only at h
                    rw [HSU.out] at h
                    exact h)
                  refine HEN.out.mono ?_
                  rintro e v9 ⟨a9, c9, rfl, hS9, hb⟩
                  have R9 := blk_keep R9.out hb
                  have B9 := bt B9.out hb (Nat.le_refl _)
                  have y0 := cell_of R9 0 _ rfl
                  have yf := frozen_of R9 0
                  have HR9 := Lib.hid R9
                  have HB9 := Lib.hid B9
                  have HS9 := Lib.hid hS9
                  clear R9 B9 hS9 hb HEN
                  go_wp2_with fail
                  have h5 := set1 HR9.out (.slice a9 n' c9)
                  have r0 := cell_of h5 0 _ rfl
                  exact bodyPost_ret (v := .tuple #[.agg #[.slice a9 n' c9], .int .i64 er]) (by simp [results, Try.results65, go_sem, r0]) rfl ⟨a9, c9, rfl, HS9.out.box HR9.out (fun s e => by cases e), HB9.out.setCell (p := ⟨w.heap.size + 1, 0, none⟩) (Nat.le_succ _) _⟩
                case false =>
                  have HKA := Lib.hid (show A.length = k by have h1 := HQ.out; have h2 := HABL.out; have h3 : ¬ A.length < k := (by simpa using h1.symm); rw [List.length_append] at h2; omega)
                  obtain ⟨NL, hNL⟩ : ∃ N, N = ys.length + 1 := ⟨_, rfl⟩
                  have HE := Lib.hid (show ys ++ [xn] = A ++ xn :: B by rw [HY.out, ← HKA.out, ← opL_put, HKA.out]; exact opL_end HABL.out)
                  have HNE := Lib.hid (show (A ++ xn :: B).length = NL by rw [hNL, ← HE.out, List.length_append]; rfl)
                  have HNL2 := Lib.hid hNL
                  clear hNL
                  have hcap := HCAP.out
                  go_upto_region 24 with (at_builtin; refine wpList_append_L (P := Try.prog) (α := Ac) rfl _ _ _ rfl 32 (Value.agg #[.string ⟨#[]⟩, .bool false, .int .i64 0, .int .i64 0]) 4 40 Try.underlying28 info_acc rfl (by decide) v2.heap.size acc (.slice oa ys.length oc) ys xn wr.heap.size _ rfl rfl (HO.out.below ((Below.refl _ _).alloc (Nat.le_refl _) _)) (blk_new wr _) (by rw [HXN.out]; rfl) (acc_len xn) (acc_one xn) (by unfold maxLen; omega) (by omega) (by simp; omega) ?_; intro g9 c9 w9 ho9 hg9 hat9; have k9 := grown_far (bt HB.out ((Below.refl _ _).alloc (Nat.le_refl _) _) (Nat.le_refl _)) hg9 (fun b hb => (HO.out.lt b hb).1); rw [← HNL2.out] at ho9 ⊢)
                  clear x40 hXl0 hg9 hat9
                  have B3 := Lib.hid (bt B2.out k9 (Nat.le_refl _))
                  have S_3 := Lib.hid (blk_keep S_2.out k9)
                  have R_3 := Lib.hid (blk_keep R_2.out k9)
                  have hs_3 := Lib.hid (hs_2.out.below k9)
                  have ho_3 := Lib.hid (ho_2.out.below k9)
                  have M_3 := Lib.hid (blk_keep M_2.out k9)
                  have HO9 := Lib.hid (show OwnL w9 v2.heap.size 32 4 acc (.slice (some ⟨g9, 0, none⟩) NL c9) (A ++ xn :: B) from by rw [← HE.out]; exact ho9)
                  have hWX := HXM.out
                  have hXv := blk_lt HXB.out
                  have hXG : ∀ b, (Value.slice (some ⟨g9, 0, none⟩) NL c9).ownBlock = some b → b ≠ XM := fun b hb e => by
                    have h1 := (HO9.out.lt b hb).1
                    omega
                  have x4 := cell_of M_3.out 4 _ rfl
                  have xf := frozen_of M_3.out 4
                  have hXl := blk_lt M_3.out
                  have M9 := Lib.hid (mbox4 M_3.out (.slice (some ⟨g9, 0, none⟩) NL c9))
                  have S9 := Lib.hid (set_other (i := 4) S_3.out (show XM ≠ w.heap.size by omega) (.slice (some ⟨g9, 0, none⟩) NL c9))
                  have R9 := Lib.hid (set_other (i := 4) R_3.out (show XM ≠ w.heap.size + 1 by omega) (.slice (some ⟨g9, 0, none⟩) NL c9))
                  have B9 := Lib.hid (B3.out.setCell (p := ⟨XM, 4, none⟩) (show w.heap.size ≤ XM by omega) (.slice (some ⟨g9, 0, none⟩) NL c9))
                  have ho9' := Lib.hid (HO9.out.far (p := ⟨XM, 4, none⟩) (fun h => hXG _ h rfl) (.slice (some ⟨g9, 0, none⟩) NL c9))
                  have hs9 := Lib.hid (HS0.out.below B9.out)
                  clear hXG
                  have s9 := cell_of S9.out 0 _ rfl
                  have m90 := cell_of M9.out 0 _ rfl
                  have m91 := cell_of M9.out 1 _ rfl
                  have m92 := cell_of M9.out 2 _ rfl
                  have m93 := cell_of M9.out 3 _ rfl
                  have m94 := cell_of M9.out 4 _ rfl
                  go_wp2_with fail
                  clear s9 m90 m91 m92 m93 m94 x4 xf
                  generalize World.setCell _ ⟨XM, 4, none⟩ _ = w10 at M9 S9 R9 B9 ho9' hs9 ⊢
                  have HEN := Lib.hid (show Calls Try.prog 89 #[.agg #[.slice a n c], .agg #[.string m0.nm, .int .u8 m0.ro, .bool false, .int .i64 m0.lim, .slice (some ⟨g9, 0, none⟩) NL c9]] w10 (SW ms' n' er w10) from by
                    have h := s_endedN a (some ⟨g9, 0, none⟩) c c9 n n' NL ms ms' ({ m0 with ac := A ++ xn :: B } : Me) er w10 (HED.out.symm.trans HR.out) HN.out HN'.out (by omega) HLN.out HOK.out hs9.out (ho9'.out.lower' (Nat.zero_le _)) HNE.out
                    dsimp only at h
                    rw [HSU.out] at h
                    exact h)
                  refine HEN.out.mono ?_
                  rintro e v9 ⟨a9, c9, rfl, hS9, hb⟩
                  have R9 := blk_keep R9.out hb
                  have B9 := bt B9.out hb (Nat.le_refl _)
                  have y0 := cell_of R9 0 _ rfl
                  have yf := frozen_of R9 0
                  have HR9 := Lib.hid R9
                  have HB9 := Lib.hid B9
                  have HS9 := Lib.hid hS9
                  clear R9 B9 hS9 hb HEN
                  go_wp2_with fail
                  have h5 := set1 HR9.out (.slice a9 n' c9)
                  have r0 := cell_of h5 0 _ rfl
                  exact bodyPost_ret (v := .tuple #[.agg #[.slice a9 n' c9], .int .i64 er]) (by simp [results, Try.results65, go_sem, r0]) rfl ⟨a9, c9, rfl, HS9.out.box HR9.out (fun s e => by cases e), HB9.out.setCell (p := ⟨w.heap.size + 1, 0, none⟩) (Nat.le_succ _) _⟩
end Go.Proofs.Ytoemjpfoddeinaa.Mb

namespace Go.Proofs.Ytoemjpfoddeinaa.Mb
open Go.RowKit Go.Proofs.Ytoemjpfoddeinaa Go.Proofs.Ytoemjpfoddeinaa.Ls Go.Proofs.Ytoemjpfoddeinaa.Kb
open Go.Proofs.Ytoemjpfoddeinaa.Nm hiding ret_bool ret_int

set_option maxRecDepth 100000 in
set_option maxHeartbeats 8000000 in
theorem s_asked (a : Option Addr) (c n : Nat) (ms : List Me) (o : Opp) (ms' : List Me) (n' : Nat) (er : Int) (w : World) (hr : callF ms o = (ms', er)) (hn : ms.length = n) (hn' : ms'.length = n') (hn8 : n ≤ 80) (ho : OkO o) (hZ : OkMs ms) (hS : St w a ms) :
    Calls Try.prog 29 #[.agg #[.slice a n c], .agg #[.int .u8 o.kd, .string o.nm, .string o.fr, .string o.tt, .int .u8 o.ro, .bool o.is, .int .i64 o.am]] w (SW ms' n' er w) := by
  have HS := Lib.hid hS
  have HO := Lib.hid ho
  have HZ := Lib.hid hZ
  have HR := Lib.hid hr
  have HN := Lib.hid hn
  have HN' := Lib.hid hn'
  obtain ⟨kd, nm, fr, tt, ro, is, am⟩ := o
  dsimp only at *
  have hbo := blk_threeB w (.cells #[.slice a n c] 24) (.cells #[.int .u8 kd, .string nm, .string fr, .string tt, .int .u8 ro, .bool is, .int .i64 am] 48) (.cells #[.slice none 0 0] 24)
  have HX := Lib.hid (blk_three w (.cells #[.slice a n c] 24) (.cells #[.int .u8 kd, .string nm, .string fr, .string tt, .int .u8 ro, .bool is, .int .i64 am] 48) (.cells #[.slice none 0 0] 24))
  clear hr hS ho hZ hn hn'
  by_cases h0 : kd = 0
  case pos =>
    subst h0
    have HR2 := Lib.hid (show joinF ms nm ro am = (ms', er) from HR.out)
    have HC := Lib.hid (fun wx (h : St wx a ms) => w_join a c n ms nm ro am HO.out.nm HO.out.ro HO.out.am ms' n' er wx HR2.out HN.out HN'.out hn8 HZ.out h)
    have x0 := cell_of HX.out.1 0 _ rfl
    have o0 := cell_of HX.out.2.1 0 _ rfl
    have o1 := cell_of HX.out.2.1 1 _ rfl
    have o2 := cell_of HX.out.2.1 2 _ rfl
    have o3 := cell_of HX.out.2.1 3 _ rfl
    have o4 := cell_of HX.out.2.1 4 _ rfl
    have o5 := cell_of HX.out.2.1 5 _ rfl
    have o6 := cell_of HX.out.2.1 6 _ rfl
    go_enter Try.func29, Try.ntmps29
    go_wp2_with fail
    generalize ((w.alloc _).alloc _).alloc _ = wo at hbo HX x0 o0 o1 o2 o3 o4 o5 o6 ⊢
    refine (HC.out _ (HS.out.below hbo)).mono ?_
    rintro e w1 ⟨a', c', rfl, hS1, hb⟩
    have hR := blk_keep HX.out.2.2 hb
    have y0 := cell_of hR 0 _ rfl
    have yf := frozen_of hR 0
    have HS1 := Lib.hid hS1
    have HR0 := Lib.hid hR
    have HR1 := Lib.hid (set1 hR (.slice a' n' c'))
    have HB1 := Lib.hid (bt hbo hb (Nat.le_refl _))
    clear hS1 hb hR x0 o0 o1 o2 o3 o4 o5 o6
    go_wp2_with fail
    have r0 := cell_of HR1.out 0 _ rfl
    exact bodyPost_ret (v := .tuple #[.agg #[.slice a' n' c'], .int .i64 er]) (by simp [results, Try.results29, go_sem, r0]) rfl ⟨a', c', rfl, HS1.out.box HR0.out (fun s e => by cases e), HB1.out.setCell (p := ⟨w.heap.size + 1 + 1, 0, none⟩) (by show w.heap.size ≤ w.heap.size + 1 + 1; omega) _⟩
  by_cases h1 : kd = 1
  case pos =>
    subst h1
    clear h0
    have HR2 := Lib.hid (show leaveF ms nm = (ms', er) from HR.out)
    have HC := Lib.hid (fun wx (h : St wx a ms) => w_leave a c n ms nm ms' n' er wx HR2.out HN.out HN'.out hn8 HZ.out h)
    have x0 := cell_of HX.out.1 0 _ rfl
    have o0 := cell_of HX.out.2.1 0 _ rfl
    have o1 := cell_of HX.out.2.1 1 _ rfl
    have o2 := cell_of HX.out.2.1 2 _ rfl
    have o3 := cell_of HX.out.2.1 3 _ rfl
    have o4 := cell_of HX.out.2.1 4 _ rfl
    have o5 := cell_of HX.out.2.1 5 _ rfl
    have o6 := cell_of HX.out.2.1 6 _ rfl
    go_enter Try.func29, Try.ntmps29
    go_wp2_with fail
    generalize ((w.alloc _).alloc _).alloc _ = wo at hbo HX x0 o0 o1 o2 o3 o4 o5 o6 ⊢
    refine (HC.out _ (HS.out.below hbo)).mono ?_
    rintro e w1 ⟨a', c', rfl, hS1, hb⟩
    have hR := blk_keep HX.out.2.2 hb
    have y0 := cell_of hR 0 _ rfl
    have yf := frozen_of hR 0
    have HS1 := Lib.hid hS1
    have HR0 := Lib.hid hR
    have HR1 := Lib.hid (set1 hR (.slice a' n' c'))
    have HB1 := Lib.hid (bt hbo hb (Nat.le_refl _))
    clear hS1 hb hR x0 o0 o1 o2 o3 o4 o5 o6
    go_wp2_with fail
    have r0 := cell_of HR1.out 0 _ rfl
    exact bodyPost_ret (v := .tuple #[.agg #[.slice a' n' c'], .int .i64 er]) (by simp [results, Try.results29, go_sem, r0]) rfl ⟨a', c', rfl, HS1.out.box HR0.out (fun s e => by cases e), HB1.out.setCell (p := ⟨w.heap.size + 1 + 1, 0, none⟩) (by show w.heap.size ≤ w.heap.size + 1 + 1; omega) _⟩
  by_cases h2 : kd = 2
  case pos =>
    subst h2
    clear h0 h1
    have HR2 := Lib.hid (show chgF ms nm (fLim am) = (ms', er) from HR.out)
    have HC := Lib.hid (fun wx (h : St wx a ms) => w_setlimit a c n ms nm am HO.out.am ms' n' er wx HR2.out HN.out HN'.out hn8 HZ.out h)
    have x0 := cell_of HX.out.1 0 _ rfl
    have o0 := cell_of HX.out.2.1 0 _ rfl
    have o1 := cell_of HX.out.2.1 1 _ rfl
    have o2 := cell_of HX.out.2.1 2 _ rfl
    have o3 := cell_of HX.out.2.1 3 _ rfl
    have o4 := cell_of HX.out.2.1 4 _ rfl
    have o5 := cell_of HX.out.2.1 5 _ rfl
    have o6 := cell_of HX.out.2.1 6 _ rfl
    go_enter Try.func29, Try.ntmps29
    go_wp2_with fail
    generalize ((w.alloc _).alloc _).alloc _ = wo at hbo HX x0 o0 o1 o2 o3 o4 o5 o6 ⊢
    refine (HC.out _ (HS.out.below hbo)).mono ?_
    rintro e w1 ⟨a', c', rfl, hS1, hb⟩
    have hR := blk_keep HX.out.2.2 hb
    have y0 := cell_of hR 0 _ rfl
    have yf := frozen_of hR 0
    have HS1 := Lib.hid hS1
    have HR0 := Lib.hid hR
    have HR1 := Lib.hid (set1 hR (.slice a' n' c'))
    have HB1 := Lib.hid (bt hbo hb (Nat.le_refl _))
    clear hS1 hb hR x0 o0 o1 o2 o3 o4 o5 o6
    go_wp2_with fail
    have r0 := cell_of HR1.out 0 _ rfl
    exact bodyPost_ret (v := .tuple #[.agg #[.slice a' n' c'], .int .i64 er]) (by simp [results, Try.results29, go_sem, r0]) rfl ⟨a', c', rfl, HS1.out.box HR0.out (fun s e => by cases e), HB1.out.setCell (p := ⟨w.heap.size + 1 + 1, 0, none⟩) (by show w.heap.size ≤ w.heap.size + 1 + 1; omega) _⟩
  by_cases h3 : kd = 3
  case pos =>
    subst h3
    clear h0 h1 h2
    have HR2 := Lib.hid (show chgF ms nm (fSus is) = (ms', er) from HR.out)
    have HC := Lib.hid (fun wx (h : St wx a ms) => w_suspend a c n ms nm is ms' n' er wx HR2.out HN.out HN'.out hn8 HZ.out h)
    have x0 := cell_of HX.out.1 0 _ rfl
    have o0 := cell_of HX.out.2.1 0 _ rfl
    have o1 := cell_of HX.out.2.1 1 _ rfl
    have o2 := cell_of HX.out.2.1 2 _ rfl
    have o3 := cell_of HX.out.2.1 3 _ rfl
    have o4 := cell_of HX.out.2.1 4 _ rfl
    have o5 := cell_of HX.out.2.1 5 _ rfl
    have o6 := cell_of HX.out.2.1 6 _ rfl
    go_enter Try.func29, Try.ntmps29
    go_wp2_with fail
    generalize ((w.alloc _).alloc _).alloc _ = wo at hbo HX x0 o0 o1 o2 o3 o4 o5 o6 ⊢
    refine (HC.out _ (HS.out.below hbo)).mono ?_
    rintro e w1 ⟨a', c', rfl, hS1, hb⟩
    have hR := blk_keep HX.out.2.2 hb
    have y0 := cell_of hR 0 _ rfl
    have yf := frozen_of hR 0
    have HS1 := Lib.hid hS1
    have HR0 := Lib.hid hR
    have HR1 := Lib.hid (set1 hR (.slice a' n' c'))
    have HB1 := Lib.hid (bt hbo hb (Nat.le_refl _))
    clear hS1 hb hR x0 o0 o1 o2 o3 o4 o5 o6
    go_wp2_with fail
    have r0 := cell_of HR1.out 0 _ rfl
    exact bodyPost_ret (v := .tuple #[.agg #[.slice a' n' c'], .int .i64 er]) (by simp [results, Try.results29, go_sem, r0]) rfl ⟨a', c', rfl, HS1.out.box HR0.out (fun s e => by cases e), HB1.out.setCell (p := ⟨w.heap.size + 1 + 1, 0, none⟩) (by show w.heap.size ≤ w.heap.size + 1 + 1; omega) _⟩
  by_cases h4 : kd = 4
  case pos =>
    subst h4
    clear h0 h1 h2 h3
    have HR2 := Lib.hid (show chgF ms nm (fOpen fr is am) = (ms', er) from HR.out)
    have HC := Lib.hid (fun wx (h : St wx a ms) => w_open a c n ms nm fr is am HO.out.fr HO.out.am ms' n' er wx HR2.out HN.out HN'.out hn8 HZ.out h)
    have x0 := cell_of HX.out.1 0 _ rfl
    have o0 := cell_of HX.out.2.1 0 _ rfl
    have o1 := cell_of HX.out.2.1 1 _ rfl
    have o2 := cell_of HX.out.2.1 2 _ rfl
    have o3 := cell_of HX.out.2.1 3 _ rfl
    have o4 := cell_of HX.out.2.1 4 _ rfl
    have o5 := cell_of HX.out.2.1 5 _ rfl
    have o6 := cell_of HX.out.2.1 6 _ rfl
    go_enter Try.func29, Try.ntmps29
    go_wp2_with fail
    generalize ((w.alloc _).alloc _).alloc _ = wo at hbo HX x0 o0 o1 o2 o3 o4 o5 o6 ⊢
    refine (HC.out _ (HS.out.below hbo)).mono ?_
    rintro e w1 ⟨a', c', rfl, hS1, hb⟩
    have hR := blk_keep HX.out.2.2 hb
    have y0 := cell_of hR 0 _ rfl
    have yf := frozen_of hR 0
    have HS1 := Lib.hid hS1
    have HR0 := Lib.hid hR
    have HR1 := Lib.hid (set1 hR (.slice a' n' c'))
    have HB1 := Lib.hid (bt hbo hb (Nat.le_refl _))
    clear hS1 hb hR x0 o0 o1 o2 o3 o4 o5 o6
    go_wp2_with fail
    have r0 := cell_of HR1.out 0 _ rfl
    exact bodyPost_ret (v := .tuple #[.agg #[.slice a' n' c'], .int .i64 er]) (by simp [results, Try.results29, go_sem, r0]) rfl ⟨a', c', rfl, HS1.out.box HR0.out (fun s e => by cases e), HB1.out.setCell (p := ⟨w.heap.size + 1 + 1, 0, none⟩) (by show w.heap.size ≤ w.heap.size + 1 + 1; omega) _⟩
  by_cases h5 : kd = 5
  case pos =>
    subst h5
    clear h0 h1 h2 h3 h4
    have HR2 := Lib.hid (show chgF ms nm (fClose fr) = (ms', er) from HR.out)
    have HC := Lib.hid (fun wx (h : St wx a ms) => w_close a c n ms nm fr ms' n' er wx HR2.out HN.out HN'.out hn8 HZ.out h)
    have x0 := cell_of HX.out.1 0 _ rfl
    have o0 := cell_of HX.out.2.1 0 _ rfl
    have o1 := cell_of HX.out.2.1 1 _ rfl
    have o2 := cell_of HX.out.2.1 2 _ rfl
    have o3 := cell_of HX.out.2.1 3 _ rfl
    have o4 := cell_of HX.out.2.1 4 _ rfl
    have o5 := cell_of HX.out.2.1 5 _ rfl
    have o6 := cell_of HX.out.2.1 6 _ rfl
    go_enter Try.func29, Try.ntmps29
    go_wp2_with fail
    generalize ((w.alloc _).alloc _).alloc _ = wo at hbo HX x0 o0 o1 o2 o3 o4 o5 o6 ⊢
    refine (HC.out _ (HS.out.below hbo)).mono ?_
    rintro e w1 ⟨a', c', rfl, hS1, hb⟩
    have hR := blk_keep HX.out.2.2 hb
    have y0 := cell_of hR 0 _ rfl
    have yf := frozen_of hR 0
    have HS1 := Lib.hid hS1
    have HR0 := Lib.hid hR
    have HR1 := Lib.hid (set1 hR (.slice a' n' c'))
    have HB1 := Lib.hid (bt hbo hb (Nat.le_refl _))
    clear hS1 hb hR x0 o0 o1 o2 o3 o4 o5 o6
    go_wp2_with fail
    have r0 := cell_of HR1.out 0 _ rfl
    exact bodyPost_ret (v := .tuple #[.agg #[.slice a' n' c'], .int .i64 er]) (by simp [results, Try.results29, go_sem, r0]) rfl ⟨a', c', rfl, HS1.out.box HR0.out (fun s e => by cases e), HB1.out.setCell (p := ⟨w.heap.size + 1 + 1, 0, none⟩) (by show w.heap.size ≤ w.heap.size + 1 + 1; omega) _⟩
  by_cases h6 : kd = 6
  case pos =>
    subst h6
    clear h0 h1 h2 h3 h4 h5
    have HR2 := Lib.hid (show chgF ms nm (fMove fr tt am) = (ms', er) from HR.out)
    have HC := Lib.hid (fun wx (h : St wx a ms) => w_move a c n ms nm fr tt am HO.out.am ms' n' er wx HR2.out HN.out HN'.out hn8 HZ.out h)
    have x0 := cell_of HX.out.1 0 _ rfl
    have o0 := cell_of HX.out.2.1 0 _ rfl
    have o1 := cell_of HX.out.2.1 1 _ rfl
    have o2 := cell_of HX.out.2.1 2 _ rfl
    have o3 := cell_of HX.out.2.1 3 _ rfl
    have o4 := cell_of HX.out.2.1 4 _ rfl
    have o5 := cell_of HX.out.2.1 5 _ rfl
    have o6 := cell_of HX.out.2.1 6 _ rfl
    go_enter Try.func29, Try.ntmps29
    go_wp2_with fail
    generalize ((w.alloc _).alloc _).alloc _ = wo at hbo HX x0 o0 o1 o2 o3 o4 o5 o6 ⊢
    refine (HC.out _ (HS.out.below hbo)).mono ?_
    rintro e w1 ⟨a', c', rfl, hS1, hb⟩
    have hR := blk_keep HX.out.2.2 hb
    have y0 := cell_of hR 0 _ rfl
    have yf := frozen_of hR 0
    have HS1 := Lib.hid hS1
    have HR0 := Lib.hid hR
    have HR1 := Lib.hid (set1 hR (.slice a' n' c'))
    have HB1 := Lib.hid (bt hbo hb (Nat.le_refl _))
    clear hS1 hb hR x0 o0 o1 o2 o3 o4 o5 o6
    go_wp2_with fail
    have r0 := cell_of HR1.out 0 _ rfl
    exact bodyPost_ret (v := .tuple #[.agg #[.slice a' n' c'], .int .i64 er]) (by simp [results, Try.results29, go_sem, r0]) rfl ⟨a', c', rfl, HS1.out.box HR0.out (fun s e => by cases e), HB1.out.setCell (p := ⟨w.heap.size + 1 + 1, 0, none⟩) (by show w.heap.size ≤ w.heap.size + 1 + 1; omega) _⟩
  have HR2 := Lib.hid (show chgF ms nm (fUse fr am) = (ms', er) by rw [← HR.out]; unfold callF; rw [if_neg h0, if_neg h1, if_neg h2, if_neg h3, if_neg h4, if_neg h5, if_neg h6])
  have e0 : (kd == 0) = false := by simpa using h0
  have e1 : (kd == 1) = false := by simpa using h1
  have e2 : (kd == 2) = false := by simpa using h2
  have e3 : (kd == 3) = false := by simpa using h3
  have e4 : (kd == 4) = false := by simpa using h4
  have e5 : (kd == 5) = false := by simpa using h5
  have e6 : (kd == 6) = false := by simpa using h6
  clear h0 h1 h2 h3 h4 h5 h6
  have HC := Lib.hid (fun wx (h : St wx a ms) => w_use a c n ms nm fr am HO.out.am ms' n' er wx HR2.out HN.out HN'.out hn8 HZ.out h)
  have x0 := cell_of HX.out.1 0 _ rfl
  have o0 := cell_of HX.out.2.1 0 _ rfl
  have o1 := cell_of HX.out.2.1 1 _ rfl
  have o2 := cell_of HX.out.2.1 2 _ rfl
  have o3 := cell_of HX.out.2.1 3 _ rfl
  have o4 := cell_of HX.out.2.1 4 _ rfl
  have o5 := cell_of HX.out.2.1 5 _ rfl
  have o6 := cell_of HX.out.2.1 6 _ rfl
  go_enter Try.func29, Try.ntmps29
  go_wp2_with fail
  generalize ((w.alloc _).alloc _).alloc _ = wo at hbo HX x0 o0 o1 o2 o3 o4 o5 o6 ⊢
  refine (HC.out _ (HS.out.below hbo)).mono ?_
  rintro e w1 ⟨a', c', rfl, hS1, hb⟩
  have hR := blk_keep HX.out.2.2 hb
  have y0 := cell_of hR 0 _ rfl
  have yf := frozen_of hR 0
  have HS1 := Lib.hid hS1
  have HR0 := Lib.hid hR
  have HR1 := Lib.hid (set1 hR (.slice a' n' c'))
  have HB1 := Lib.hid (bt hbo hb (Nat.le_refl _))
  clear hS1 hb hR x0 o0 o1 o2 o3 o4 o5 o6
  go_wp2_with fail
  have r0 := cell_of HR1.out 0 _ rfl
  exact bodyPost_ret (v := .tuple #[.agg #[.slice a' n' c'], .int .i64 er]) (by simp [results, Try.results29, go_sem, r0]) rfl ⟨a', c', rfl, HS1.out.box HR0.out (fun s e => by cases e), HB1.out.setCell (p := ⟨w.heap.size + 1 + 1, 0, none⟩) (by show w.heap.size ≤ w.heap.size + 1 + 1; omega) _⟩
end Go.Proofs.Ytoemjpfoddeinaa.Mb
