/-
  Member: the walk of MemberSuspended.
-/
import Derived.Test.YtoemjpfoddeinaaMbU
import Derived.Test.YtoemjpfoddeinaaMbV
import Derived.Test.YtoemjpfoddeinaaMwR
namespace Go.Proofs.Ytoemjpfoddeinaa.Mb
open Go.RowKit Go.Proofs.Ytoemjpfoddeinaa Go.Proofs.Ytoemjpfoddeinaa.Ls Go.Proofs.Ytoemjpfoddeinaa.Kb
open Go.Proofs.Ytoemjpfoddeinaa.Nm hiding ret_bool ret_int

set_option maxRecDepth 100000 in
set_option maxHeartbeats 8000000 in
theorem susp_walk {W : World} (a : Option Addr) (c : Nat) (xs : List P) (hz : ∀ x ∈ xs, RawM x.1) (hx : xs.length ≤ maxLen) (hA : AtM W a xs) (o : Opp) (ho : OkO o) :
    Calls Try.prog 4 #[.agg #[.slice a xs.length c], .agg #[.int .u8 o.kd, .string o.nm, .string o.fr, .string o.tt, .int .u8 o.ro, .bool o.is, .int .i64 o.am]] W fun e w' => e = .returned (.bool true) ∧ Below W.heap.size W w' := by
  have hb0 : Below W.heap.size W ((W.alloc (.cells #[.slice a xs.length c] 24)).alloc (.cells #[.int .u8 o.kd, .string o.nm, .string o.fr, .string o.tt, .int .u8 o.ro, .bool o.is, .int .i64 o.am] 48)) := ((Below.refl _ _).alloc (Nat.le_refl _) _).alloc (by simp) _
  have HX := Lib.hid (blk_two W (.cells #[.slice a xs.length c] 24) (.cells #[.int .u8 o.kd, .string o.nm, .string o.fr, .string o.tt, .int .u8 o.ro, .bool o.is, .int .i64 o.am] 48))
  have HA := Lib.hid hA
  have HZ := Lib.hid hz
  have HO := Lib.hid ho
  clear hA hz ho
  go_enter Try.func4, Try.ntmps4
  go_wp2_with fail
  generalize (W.alloc _).alloc _ = w0 at hb0 HX ⊢
  refine (alive_any w0).mono ?_
  rintro e w1 ⟨rfl, hb⟩
  have S1 := Lib.hid (blk_keep HX.out.1 hb)
  have O1 := Lib.hid (blk_keep HX.out.2 hb)
  have B1 := Lib.hid (bt hb0 hb (Nat.le_refl _))
  have ld := cell_of S1.out 0 _ rfl
  clear hb0 HX hb
  go_wp2_with fail
  clear ld
  refine (great_any a c xs w1 hx (HA.out.below B1.out)).mono ?_
  rintro e w2 ⟨rfl, hb⟩
  have S2 := Lib.hid (blk_keep S1.out hb)
  have O2 := Lib.hid (blk_keep O1.out hb)
  have B2 := Lib.hid (bt B1.out hb (Nat.le_refl _))
  clear S1 O1 B1 hb
  rcases Kb.hb (grB xs) with hg | hg
  case inl =>
    rw [hg]
    go_wp2_with fail
    go_ret
    exact ⟨rfl, B2.out⟩
  rw [hg]
  obtain ⟨hn80, hac⟩ := gr_small hg
  have HOK := Lib.hid (show OkMs (fst xs) from fun m hm => by
    obtain ⟨x, hx, rfl⟩ := List.mem_map.1 hm
    exact (HZ.out x hx).ok (by have := hac x hx; omega))
  have HST := Lib.hid (show St w2 a (fst xs) from ⟨xs, rfl, HA.out.below B2.out⟩)
  have HLN := Lib.hid (show ∀ m ∈ fst xs, m.ac.length ≤ 1000 from fun m hm => (HOK.out m hm).len)
  obtain ⟨n, hn⟩ : ∃ n, n = xs.length := ⟨_, rfl⟩
  have HN := Lib.hid (show (fst xs).length = n by rw [fst_len, hn])
  rw [← hn] at S2 hn80 ⊢
  obtain ⟨ms, hms⟩ : ∃ ms, ms = fst xs := ⟨_, rfl⟩
  rw [← hms] at HOK HST HLN HN
  clear hg hac HA HZ hx hn hms
  obtain ⟨m, hm⟩ : ∃ m, m = (fdM ms o.nm).1 := ⟨_, rfl⟩
  obtain ⟨is, his⟩ : ∃ b, b = (fdM ms o.nm).2 := ⟨_, rfl⟩
  have HFM := Lib.hid (show fdM ms o.nm = (m, is) by rw [hm, his])
  clear hm his
  have ld := cell_of S2.out 0 _ rfl
  have lo := cell_of O2.out 1 _ rfl
  go_wp2_with fail
  clear ld lo
  refine (s_rfind a c n ms o.nm m m.ac.length is w2 HFM.out HN.out rfl (by omega) HST.out).mono ?_
  rintro e v3 ⟨am, cm, rfl, hAm, hb⟩
  have hb0 := hb
  have hal : Below v3.heap.size v3 (v3.alloc (.cells #[.string m.nm, .int .u8 m.ro, .bool m.su, .int .i64 m.lim, .slice am m.ac.length cm] 30)) := (Below.refl _ _).alloc (Nat.le_refl _) _
  have hnw := blk_new v3 (.cells #[.string m.nm, .int .u8 m.ro, .bool m.su, .int .i64 m.lim, .slice am m.ac.length cm] 30)
  obtain ⟨XM, hX⟩ : ∃ X, X = v3.heap.size := ⟨_, rfl⟩
  have B3 := Lib.hid (bt (bt B2.out hb (Nat.le_refl _)) hal (Nat.le_refl _))
  have S_3 := Lib.hid (blk_keep (blk_keep S2.out hb) hal)
  have O_3 := Lib.hid (blk_keep (blk_keep O2.out hb) hal)
  have hs_3 := Lib.hid ((HST.out.below hb).below hal)
  rw [← hX] at hnw
  have M_3 := Lib.hid hnw
  clear hb hb0 B2 S2 O2 HST hAm
  go_upto_region 5 with fail
  rw [← hX]
  clear hX
  clear hal hnw
  generalize v3.alloc _ = w3 at B3 S_3 O_3 hs_3 M_3 ⊢
  obtain ⟨ms', hms'⟩ : ∃ m, m = (callF ms o).1 := ⟨_, rfl⟩
  obtain ⟨er, her⟩ : ∃ e, e = (callF ms o).2 := ⟨_, rfl⟩
  have HCF := Lib.hid (show callF ms o = (ms', er) by rw [hms', her])
  obtain ⟨n', hn'⟩ : ∃ n', n' = ms'.length := ⟨_, rfl⟩
  have HN' := Lib.hid hn'.symm
  clear hms' her hn'
  have k2 : Below w3.heap.size w3 w3 := Below.refl _ _
  have kd := k2.drew
  have HK := Lib.hid (show ∀ wx, Below w3.heap.size w3 wx → wx.cell? ⟨W.heap.size, 0, none⟩ = some (.slice a n c) ∧ wx.cell? ⟨W.heap.size + 1, 0, none⟩ = some (.int .u8 o.kd) ∧ wx.cell? ⟨W.heap.size + 1, 1, none⟩ = some (.string o.nm) ∧ wx.cell? ⟨W.heap.size + 1, 2, none⟩ = some (.string o.fr) ∧ wx.cell? ⟨W.heap.size + 1, 3, none⟩ = some (.string o.tt) ∧ wx.cell? ⟨W.heap.size + 1, 4, none⟩ = some (.int .u8 o.ro) ∧ wx.cell? ⟨W.heap.size + 1, 5, none⟩ = some (.bool o.is) ∧ wx.cell? ⟨W.heap.size + 1, 6, none⟩ = some (.int .i64 o.am) from fun wx h => ⟨cell_of (blk_keep S_3.out h) 0 _ rfl, cell_of (blk_keep O_3.out h) 0 _ rfl, cell_of (blk_keep O_3.out h) 1 _ rfl, cell_of (blk_keep O_3.out h) 2 _ rfl, cell_of (blk_keep O_3.out h) 3 _ rfl, cell_of (blk_keep O_3.out h) 4 _ rfl, cell_of (blk_keep O_3.out h) 5 _ rfl, cell_of (blk_keep O_3.out h) 6 _ rfl⟩)
  have HTW := Lib.hid (fun wx (h : Below w3.heap.size w3 wx) => s_twin a c n ms wx HN.out (by omega) HLN.out (hs_3.out.below h))
  have HCA := Lib.hid (fun wx a3 c3 (h : St wx a3 ms) => s_call a3 c3 n ms o ms' n' er wx HCF.out HN.out HN'.out (by omega) HO.out HOK.out h)
  go_cut [8, 9] from 31 to 37 (fun p q wn => ∃ (B : Nat) (a4 : Option Addr) (c4 : Nat), p = .pointer (some ⟨B, 0, none⟩) ∧ q = .int .i64 er ∧ Hid (wn.heap[B]? = some (.cells #[.slice a4 n' c4] 24 (0, 0)) ∧ Below w3.heap.size w3 wn ∧ St wn a4 ms'))
  case first =>
    go_region_held3 (fun wx => wx.cell? ⟨W.heap.size, 0, none⟩ = some (.slice a n c) ∧ wx.cell? ⟨W.heap.size + 1, 0, none⟩ = some (.int .u8 o.kd) ∧ wx.cell? ⟨W.heap.size + 1, 1, none⟩ = some (.string o.nm) ∧ wx.cell? ⟨W.heap.size + 1, 2, none⟩ = some (.string o.fr) ∧ wx.cell? ⟨W.heap.size + 1, 3, none⟩ = some (.string o.tt) ∧ wx.cell? ⟨W.heap.size + 1, 4, none⟩ = some (.int .u8 o.ro) ∧ wx.cell? ⟨W.heap.size + 1, 5, none⟩ = some (.bool o.is) ∧ wx.cell? ⟨W.heap.size + 1, 6, none⟩ = some (.int .i64 o.am))
      (first | exact HK.out _ (by assumption) | exact HK.out _ (Below.drew (by assumption)) | exact HK.out _ (below_al (by assumption) _) | exact HK.out _ HFN.out.2.1 | go_keep)
      (first
        | (go_at_call 12; refine (HTW.out w3.drew kd).mono ?_; rintro e wA ⟨a3, c3, rfl, hT3, hb3⟩; have k3 : Below w3.heap.size w3 wA := bt kd hb3 (Nat.le_refl _); have HT3 := Lib.hid hT3)
        | (go_at_call 12; refine (HTW.out (w3.drew.alloc (.cells #[.slice none 0 0] 24)) (below_al kd _)).mono ?_; rintro e wA ⟨a3, c3, rfl, hT3, hb3⟩; have k3 : Below w3.heap.size w3 wA := bt (below_al kd _) hb3 (Nat.le_refl _); have HT3 := Lib.hid hT3; have ZB := Lib.hid (show wA.heap[w3.heap.size]? = some (.cells #[.slice none 0 0] 24 (0, 0)) from blk_keep (blk_new w3.drew (.cells #[.slice none 0 0] 24)) hb3))
        | (go_at_call 26; refine (HCA.out wA a3 c3 HT3.out.st).mono ?_; rintro e wB ⟨a4, c4, rfl, hT4, hb4⟩; have ZC := Lib.hid (blk_keep ZB.out hb4); have k4 : Below w3.heap.size w3 wB := bt k3 hb4 (Nat.le_refl _); have z0 := cell_of ZC.out 0 _ rfl; have zf := frozen_of ZC.out 0; have HFN := Lib.hid (t_set (n := n') k4 ZC.out hT4 (Nat.le_refl _)))
        | (go_at_call 26; refine (HCA.out wA a3 c3 HT3.out.st).mono ?_; rintro e wB ⟨a4, c4, rfl, hT4, hb4⟩; have k4 : Below w3.heap.size w3 wB := bt k3 hb4 (Nat.le_refl _); have HFN := Lib.hid (t_new (n := n') k4 hT4))
        | (go_at_call 26; refine (HCA.out (wA.alloc (.cells #[.slice none 0 0] 24)) a3 c3 (HT3.out.st.below (below_al (Below.refl _ _) _))).mono ?_; rintro e wB ⟨a4, c4, rfl, hT4, hb4⟩; have k4 : Below w3.heap.size w3 wB := bt (below_al k3 _) hb4 (Nat.le_refl _); have ZC := Lib.hid (blk_keep (blk_new wA (.cells #[.slice none 0 0] 24)) hb4); have z0 := cell_of ZC.out 0 _ rfl; have zf := frozen_of ZC.out 0; have HFN := Lib.hid (t_set (n := n') k4 ZC.out hT4 k3.size)))
    all_goals
      go_wp2
      go_meet
      case rel => exact ⟨_, _, _, rfl, rfl, HFN⟩
  case rest =>
    obtain ⟨XT, a4, c4, rfl, rfl, HBX⟩ := hcut
    have hb := HBX.out.2.1
    have B4 := Lib.hid (bt B3.out hb (Nat.le_refl _))
    have S_4 := Lib.hid (blk_keep S_3.out hb)
    have O_4 := Lib.hid (blk_keep O_3.out hb)
    have hs_4 := Lib.hid (hs_3.out.below hb)
    have M_4 := Lib.hid (blk_keep M_3.out hb)
    have T_3 := Lib.hid HBX.out.1
    have HT_3 := Lib.hid HBX.out.2.2
    clear hb HBX k2 kd HK HTW HCA B3 S_3 O_3 hs_3 M_3
    obtain ⟨u, hu⟩ : ∃ m, m = (fdM ms' o.nm).1 := ⟨_, rfl⟩
    obtain ⟨there, hth⟩ : ∃ b, b = (fdM ms' o.nm).2 := ⟨_, rfl⟩
    have HFU := Lib.hid (show fdM ms' o.nm = (u, there) by rw [hu, hth])
    have hn1 : n' ≤ 1000 := by
      by_cases he : er = 0
      · subst he
        have := HN'.out
        have h1 := ((chk_iff _).1 (call_in HCF.out).2.1).1
        omega
      · have h1 := call_ne (ms := ms) (o := o) (by rw [HCF.out]; exact he)
        rw [HCF.out] at h1
        have h2 : ms' = [] := h1
        have := HN'.out
        rw [h2] at this
        simp at this
        omega
    clear hu hth
    have ld := cell_of T_3.out 0 _ rfl
    have lo := cell_of O_4.out 1 _ rfl
    go_wp2_with fail
    clear ld lo
    refine (s_rfind a4 c4 n' ms' o.nm u u.ac.length there wc HFU.out HN'.out rfl hn1 HT_3.out).mono ?_
    rintro e v5 ⟨au, cu, rfl, hAu, hb⟩
    have hal : Below v5.heap.size v5 (v5.alloc (.cells #[.string u.nm, .int .u8 u.ro, .bool u.su, .int .i64 u.lim, .slice au u.ac.length cu] 30)) := (Below.refl _ _).alloc (Nat.le_refl _) _
    have hnw := blk_new v5 (.cells #[.string u.nm, .int .u8 u.ro, .bool u.su, .int .i64 u.lim, .slice au u.ac.length cu] 30)
    have lm := cell_of (blk_keep M_4.out hb) 2 _ rfl
    have lml := blk_lt (blk_keep M_4.out hb)
    have ls := cell_of (blk_keep S_4.out hb) 0 _ rfl
    have lsl := blk_lt (blk_keep S_4.out hb)
    have lo := cell_of (blk_keep O_4.out hb) 1 _ rfl
    have lol := blk_lt (blk_keep O_4.out hb)
    have B5 := Lib.hid (bt (bt B4.out hb (Nat.le_refl _)) hal (Nat.le_refl _))
    have S_5 := Lib.hid (blk_keep (blk_keep S_4.out hb) hal)
    have O_5 := Lib.hid (blk_keep (blk_keep O_4.out hb) hal)
    have hs_5 := Lib.hid ((hs_4.out.below hb).below hal)
    have M_5 := Lib.hid (blk_keep (blk_keep M_4.out hb) hal)
    have T_5 := Lib.hid (blk_keep (blk_keep T_3.out hb) hal)
    have ht_5 := Lib.hid ((HT_3.out.below hb).below hal)
    have U_9 := Lib.hid hnw
    clear hb hnw hAu hal B4 S_4 O_4 hs_4 M_4 T_3 HT_3
    by_cases he : er = 0
    case neg =>
      have he' : (er != 0) = true := by simpa using he
      go_wp2_with fail
      generalize v5.alloc _ = w5 at B5 ⊢
      go_ret
      exact ⟨rfl, B5.out⟩
    subst he
    cases is
    case false =>
      go_wp2_with fail
      generalize v5.alloc _ = w5 at B5 ⊢
      go_ret
      exact ⟨rfl, B5.out⟩
    cases there
    case false =>
      go_wp2_with fail
      generalize v5.alloc _ = w5 at B5 ⊢
      go_ret
      exact ⟨rfl, B5.out⟩
    obtain ⟨su, hsu⟩ : ∃ b, b = m.su := ⟨_, rfl⟩
    rw [← hsu] at lm
    have HSU := Lib.hid hsu
    clear hsu
    cases su
    case false =>
      go_wp2_with fail
      generalize v5.alloc _ = w5 at B5 ⊢
      go_ret
      exact ⟨rfl, B5.out⟩
    obtain ⟨x, y, hx, hy, hle, hlen⟩ := call_susp HCF.out HFM.out HFU.out HSU.out.symm
    have hc2 := chk_okms (call_in HCF.out).2.1
    have HEX := Lib.hid (fun wx (h : St wx a ms) => s_expo a c n ms o.nm x 0 wx hx HN.out (by omega) HOK.out h)
    have HEY := Lib.hid (fun wx (h : St wx a4 ms') => s_expo a4 c4 n' ms' o.nm y 0 wx hy HN'.out hn1 hc2 h)
    have hle2 : (u.ac.length : Int) ≤ m.ac.length := by omega
    clear hx hy hc2 HCF HFM HFU hlen
    go_wp2_with fail
    clear lm lml ls lsl lo lol
    generalize v5.alloc _ = w5 at B5 U_9 S_5 O_5 hs_5 M_5 T_5 ht_5 ⊢
    refine (HEX.out w5 hs_5.out).mono ?_
    rintro e v6 ⟨rfl, hb⟩
    have hb0 := hb
    have ld0 := cell_of (blk_keep T_5.out hb) 0 _ rfl
    have ll0 := blk_lt (blk_keep T_5.out hb)
    have ld1 := cell_of (blk_keep O_5.out hb) 1 _ rfl
    have ll1 := blk_lt (blk_keep O_5.out hb)
    have B6 := Lib.hid (bt B5.out hb (Nat.le_refl _))
    have S_6 := Lib.hid (blk_keep S_5.out hb)
    have O_6 := Lib.hid (blk_keep O_5.out hb)
    have hs_6 := Lib.hid (hs_5.out.below hb)
    have M_6 := Lib.hid (blk_keep M_5.out hb)
    have T_6 := Lib.hid (blk_keep T_5.out hb)
    have ht_6 := Lib.hid (ht_5.out.below hb)
    have U_6 := Lib.hid (blk_keep U_9.out hb)
    clear hb hb0 B5 S_5 O_5 hs_5 M_5 T_5 ht_5 U_9 
    go_wp2_with fail
    clear ld0 ll0 ld1 ll1
    refine (HEY.out v6 ht_6.out).mono ?_
    rintro e v7 ⟨rfl, hb⟩
    have hb0 := hb
    have ld0 := cell_of (blk_keep U_6.out hb) 4 _ rfl
    have ll0 := blk_lt (blk_keep U_6.out hb)
    have ld1 := cell_of (blk_keep M_6.out hb) 4 _ rfl
    have ll1 := blk_lt (blk_keep M_6.out hb)
    have B7 := Lib.hid (bt B6.out hb (Nat.le_refl _))
    have S_7 := Lib.hid (blk_keep S_6.out hb)
    have O_7 := Lib.hid (blk_keep O_6.out hb)
    have hs_7 := Lib.hid (hs_6.out.below hb)
    have M_7 := Lib.hid (blk_keep M_6.out hb)
    have T_7 := Lib.hid (blk_keep T_6.out hb)
    have ht_7 := Lib.hid (ht_6.out.below hb)
    have U_7 := Lib.hid (blk_keep U_6.out hb)
    clear hb hb0 B6 S_6 O_6 hs_6 M_6 T_6 ht_6 U_6 
    go_wp2_with fail
    clear ld0 ll0 ld1 ll1
    go_ret
    exact ⟨rfl, B7.out⟩
end Go.Proofs.Ytoemjpfoddeinaa.Mb
