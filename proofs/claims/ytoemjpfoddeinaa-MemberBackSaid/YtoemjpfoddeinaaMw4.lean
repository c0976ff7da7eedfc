/-
  Member: the walk of MemberBack.
-/
import Derived.Test.YtoemjpfoddeinaaMbU
import Derived.Test.YtoemjpfoddeinaaMbV
import Derived.Test.YtoemjpfoddeinaaMwR
namespace Go.Proofs.Ytoemjpfoddeinaa.Mb
open Go.RowKit Go.Proofs.Ytoemjpfoddeinaa Go.Proofs.Ytoemjpfoddeinaa.Ls Go.Proofs.Ytoemjpfoddeinaa.Kb
open Go.Proofs.Ytoemjpfoddeinaa.Nm hiding ret_bool ret_int

set_option maxRecDepth 100000 in
set_option maxHeartbeats 8000000 in
theorem back_walk {W : World} (a : Option Addr) (c : Nat) (xs : List P) (hz : ∀ x ∈ xs, RawM x.1) (hx : xs.length ≤ maxLen) (hA : AtM W a xs) (o : Opp) (ho : OkO o) :
    Calls Try.prog 9 #[.agg #[.slice a xs.length c], .agg #[.int .u8 o.kd, .string o.nm, .string o.fr, .string o.tt, .int .u8 o.ro, .bool o.is, .int .i64 o.am]] W fun e w' => e = .returned (.bool true) ∧ Below W.heap.size W w' := by
  have hb0 : Below W.heap.size W ((W.alloc (.cells #[.slice a xs.length c] 24)).alloc (.cells #[.int .u8 o.kd, .string o.nm, .string o.fr, .string o.tt, .int .u8 o.ro, .bool o.is, .int .i64 o.am] 48)) := ((Below.refl _ _).alloc (Nat.le_refl _) _).alloc (by simp) _
  have HX := Lib.hid (blk_two W (.cells #[.slice a xs.length c] 24) (.cells #[.int .u8 o.kd, .string o.nm, .string o.fr, .string o.tt, .int .u8 o.ro, .bool o.is, .int .i64 o.am] 48))
  have HA := Lib.hid hA
  have HZ := Lib.hid hz
  have HO := Lib.hid ho
  clear hA hz ho
  go_enter Try.func9, Try.ntmps9
  go_wp2_with fail
  generalize (W.alloc _).alloc _ = w0 at hb0 HX ⊢
  refine (alive_any w0).mono ?_
  rintro e w1 ⟨rfl, hb⟩
  have S1 := Lib.hid (blk_keep HX.out.1 hb)
  have O1 := Lib.hid (blk_keep HX.out.2 hb)
  have B1 := Lib.hid (bt hb0 hb (Nat.le_refl _))
  have ld := cell_of S1.out 0 _ rfl
  clear hb0 HX hb
  go_wp2_with fail
  clear ld
  refine (great_any a c xs w1 hx (HA.out.below B1.out)).mono ?_
  rintro e w2 ⟨rfl, hb⟩
  have S2 := Lib.hid (blk_keep S1.out hb)
  have O2 := Lib.hid (blk_keep O1.out hb)
  have B2 := Lib.hid (bt B1.out hb (Nat.le_refl _))
  clear S1 O1 B1 hb
  rcases Kb.hb (grB xs) with hg | hg
  case inl =>
    rw [hg]
    go_wp2_with fail
    go_ret
    exact ⟨rfl, B2.out⟩
  rw [hg]
  obtain ⟨hn80, hac⟩ := gr_small hg
  have HOK := Lib.hid (show OkMs (fst xs) from fun m hm => by
    obtain ⟨x, hx, rfl⟩ := List.mem_map.1 hm
    exact (HZ.out x hx).ok (by have := hac x hx; omega))
  have HST := Lib.hid (show St w2 a (fst xs) from ⟨xs, rfl, HA.out.below B2.out⟩)
  have HLN := Lib.hid (show ∀ m ∈ fst xs, m.ac.length ≤ 1000 from fun m hm => (HOK.out m hm).len)
  obtain ⟨n, hn⟩ : ∃ n, n = xs.length := ⟨_, rfl⟩
  have HN := Lib.hid (show (fst xs).length = n by rw [fst_len, hn])
  rw [← hn] at S2 hn80 ⊢
  obtain ⟨ms, hms⟩ : ∃ ms, ms = fst xs := ⟨_, rfl⟩
  rw [← hms] at HOK HST HLN HN
  clear hg hac HA HZ hx hn hms
  obtain ⟨ms', hms'⟩ : ∃ m, m = (callF ms o).1 := ⟨_, rfl⟩
  obtain ⟨er, her⟩ : ∃ e, e = (callF ms o).2 := ⟨_, rfl⟩
  have HCF := Lib.hid (show callF ms o = (ms', er) by rw [hms', her])
  obtain ⟨n', hn'⟩ : ∃ n', n' = ms'.length := ⟨_, rfl⟩
  have HN' := Lib.hid hn'.symm
  clear hms' her hn'
  have k2 : Below w2.heap.size w2 w2 := Below.refl _ _
  have kd := k2.drew
  have HK := Lib.hid (show ∀ wx, Below w2.heap.size w2 wx → wx.cell? ⟨W.heap.size, 0, none⟩ = some (.slice a n c) ∧ wx.cell? ⟨W.heap.size + 1, 0, none⟩ = some (.int .u8 o.kd) ∧ wx.cell? ⟨W.heap.size + 1, 1, none⟩ = some (.string o.nm) ∧ wx.cell? ⟨W.heap.size + 1, 2, none⟩ = some (.string o.fr) ∧ wx.cell? ⟨W.heap.size + 1, 3, none⟩ = some (.string o.tt) ∧ wx.cell? ⟨W.heap.size + 1, 4, none⟩ = some (.int .u8 o.ro) ∧ wx.cell? ⟨W.heap.size + 1, 5, none⟩ = some (.bool o.is) ∧ wx.cell? ⟨W.heap.size + 1, 6, none⟩ = some (.int .i64 o.am) from fun wx h => ⟨cell_of (blk_keep S2.out h) 0 _ rfl, cell_of (blk_keep O2.out h) 0 _ rfl, cell_of (blk_keep O2.out h) 1 _ rfl, cell_of (blk_keep O2.out h) 2 _ rfl, cell_of (blk_keep O2.out h) 3 _ rfl, cell_of (blk_keep O2.out h) 4 _ rfl, cell_of (blk_keep O2.out h) 5 _ rfl, cell_of (blk_keep O2.out h) 6 _ rfl⟩)
  have HTW := Lib.hid (fun wx (h : Below w2.heap.size w2 wx) => s_twin a c n ms wx HN.out (by omega) HLN.out (HST.out.below h))
  have HCA := Lib.hid (fun wx a3 c3 (h : St wx a3 ms) => s_call a3 c3 n ms o ms' n' er wx HCF.out HN.out HN'.out (by omega) HO.out HOK.out h)
  go_upto_region 4 with fail
  go_cut [6, 7] from 21 to 27 (fun p q wn => ∃ (B : Nat) (a4 : Option Addr) (c4 : Nat), p = .pointer (some ⟨B, 0, none⟩) ∧ q = .int .i64 er ∧ Hid (wn.heap[B]? = some (.cells #[.slice a4 n' c4] 24 (0, 0)) ∧ Below w2.heap.size w2 wn ∧ St wn a4 ms'))
  case first =>
    go_region_held3 (fun wx => wx.cell? ⟨W.heap.size, 0, none⟩ = some (.slice a n c) ∧ wx.cell? ⟨W.heap.size + 1, 0, none⟩ = some (.int .u8 o.kd) ∧ wx.cell? ⟨W.heap.size + 1, 1, none⟩ = some (.string o.nm) ∧ wx.cell? ⟨W.heap.size + 1, 2, none⟩ = some (.string o.fr) ∧ wx.cell? ⟨W.heap.size + 1, 3, none⟩ = some (.string o.tt) ∧ wx.cell? ⟨W.heap.size + 1, 4, none⟩ = some (.int .u8 o.ro) ∧ wx.cell? ⟨W.heap.size + 1, 5, none⟩ = some (.bool o.is) ∧ wx.cell? ⟨W.heap.size + 1, 6, none⟩ = some (.int .i64 o.am))
      (first | exact HK.out _ (by assumption) | exact HK.out _ (Below.drew (by assumption)) | exact HK.out _ (below_al (by assumption) _) | exact HK.out _ HFN.out.2.1 | go_keep)
      (first
        | (go_at_call 12; refine (HTW.out w2.drew kd).mono ?_; rintro e wA ⟨a3, c3, rfl, hT3, hb3⟩; have k3 : Below w2.heap.size w2 wA := bt kd hb3 (Nat.le_refl _); have HT3 := Lib.hid hT3)
        | (go_at_call 12; refine (HTW.out (w2.drew.alloc (.cells #[.slice none 0 0] 24)) (below_al kd _)).mono ?_; rintro e wA ⟨a3, c3, rfl, hT3, hb3⟩; have k3 : Below w2.heap.size w2 wA := bt (below_al kd _) hb3 (Nat.le_refl _); have HT3 := Lib.hid hT3; have ZB := Lib.hid (show wA.heap[w2.heap.size]? = some (.cells #[.slice none 0 0] 24 (0, 0)) from blk_keep (blk_new w2.drew (.cells #[.slice none 0 0] 24)) hb3))
        | (go_at_call 26; refine (HCA.out wA a3 c3 HT3.out.st).mono ?_; rintro e wB ⟨a4, c4, rfl, hT4, hb4⟩; have ZC := Lib.hid (blk_keep ZB.out hb4); have k4 : Below w2.heap.size w2 wB := bt k3 hb4 (Nat.le_refl _); have z0 := cell_of ZC.out 0 _ rfl; have zf := frozen_of ZC.out 0; have HFN := Lib.hid (t_set (n := n') k4 ZC.out hT4 (Nat.le_refl _)))
        | (go_at_call 26; refine (HCA.out wA a3 c3 HT3.out.st).mono ?_; rintro e wB ⟨a4, c4, rfl, hT4, hb4⟩; have k4 : Below w2.heap.size w2 wB := bt k3 hb4 (Nat.le_refl _); have HFN := Lib.hid (t_new (n := n') k4 hT4))
        | (go_at_call 26; refine (HCA.out (wA.alloc (.cells #[.slice none 0 0] 24)) a3 c3 (HT3.out.st.below (below_al (Below.refl _ _) _))).mono ?_; rintro e wB ⟨a4, c4, rfl, hT4, hb4⟩; have k4 : Below w2.heap.size w2 wB := bt (below_al k3 _) hb4 (Nat.le_refl _); have ZC := Lib.hid (blk_keep (blk_new wA (.cells #[.slice none 0 0] 24)) hb4); have z0 := cell_of ZC.out 0 _ rfl; have zf := frozen_of ZC.out 0; have HFN := Lib.hid (t_set (n := n') k4 ZC.out hT4 k3.size)))
    all_goals
      go_wp2
      go_meet
      case rel => exact ⟨_, _, _, rfl, rfl, HFN⟩
  case rest =>
    obtain ⟨XT, a4, c4, rfl, rfl, HBX⟩ := hcut
    have hb := HBX.out.2.1
    have B3 := Lib.hid (bt B2.out hb (Nat.le_refl _))
    have S_3 := Lib.hid (blk_keep S2.out hb)
    have O_3 := Lib.hid (blk_keep O2.out hb)
    have hs_3 := Lib.hid (HST.out.below hb)
    have T_3 := Lib.hid HBX.out.1
    have HT_3 := Lib.hid HBX.out.2.2
    clear hb HBX k2 kd HK HTW HCA B2 S2 O2 HST
    by_cases he : er = 0
    case neg =>
      have he' : (er != 0) = true := by simpa using he
      have l0 := cell_of O_3.out 0 _ rfl
      have l1 := cell_of O_3.out 1 _ rfl
      have l2 := cell_of O_3.out 2 _ rfl
      have l3 := cell_of O_3.out 3 _ rfl
      have l4 := cell_of O_3.out 4 _ rfl
      have l5 := cell_of O_3.out 5 _ rfl
      have l6 := cell_of O_3.out 6 _ rfl
      have BZ := Lib.hid (bt B3.out (show Below _ wc (wc.alloc (.cells #[.int .u8 o.kd, .string o.nm, .string o.fr, .string o.tt, .int .u8 o.ro, .bool o.is, .int .i64 o.am] 48)) from (Below.refl _ _).alloc (Nat.le_refl _) _) (Nat.le_refl _))
      go_wp2_with fail
      generalize wc.alloc _ = wz at BZ ⊢
      go_ret
      exact ⟨rfl, BZ.out⟩
    subst he
    have l0 := cell_of O_3.out 0 _ rfl
    have l1 := cell_of O_3.out 1 _ rfl
    have l2 := cell_of O_3.out 2 _ rfl
    have l3 := cell_of O_3.out 3 _ rfl
    have l4 := cell_of O_3.out 4 _ rfl
    have l5 := cell_of O_3.out 5 _ rfl
    have l6 := cell_of O_3.out 6 _ rfl
    have lol := blk_lt O_3.out
    have ls := cell_of T_3.out 0 _ rfl
    have lsl := blk_lt T_3.out
    have HK8 := HO.out.kd
    by_cases hk : (1 ≤ o.kd ∧ o.kd ≤ 3) ∨ o.kd = 5
    case pos =>
      have BZ := Lib.hid (bt B3.out (show Below _ wc (wc.alloc (.cells #[.int .u8 o.kd, .string o.nm, .string o.fr, .string o.tt, .int .u8 o.ro, .bool o.is, .int .i64 o.am] 48)) from (Below.refl _ _).alloc (Nat.le_refl _) _) (Nat.le_refl _))
      by_cases h1 : 1 ≤ o.kd
      case neg => exact absurd hk (by omega)
      by_cases h3 : o.kd ≤ 3
      case pos =>
        go_wp2_with fail
        generalize wc.alloc _ = wz at BZ ⊢
        go_ret
        exact ⟨rfl, BZ.out⟩
      case neg =>
        have h5 : (o.kd == 5) = true := by simp; omega
        go_wp2_with fail
        generalize wc.alloc _ = wz at BZ ⊢
        go_ret
        exact ⟨rfl, BZ.out⟩
    have h5 : (o.kd == 5) = false := by simp; omega
    have h13 : ¬ (1 ≤ o.kd ∧ o.kd ≤ 3) := by omega
    have HB := Lib.hid (call_back HCF.out hk (by omega))
    have hc2 := chk_okms (call_in HCF.out).2.1
    have hn1 : n' ≤ 1000 := by
      have := HN'.out
      have h1 := ((chk_iff _).1 (call_in HCF.out).2.1).1
      omega
    have HC2 := Lib.hid hc2
    have HSG := Lib.hid (fun h => call_sig HCF.out h)
    clear hc2 HCF
    by_cases h0 : o.kd = 0
    case pos =>
      have e1 : ¬ 1 ≤ o.kd := by omega
      have e0 : (o.kd == 0) = true := by simp [h0]
      have HB2 := Lib.hid (show callF ms' { o with kd := 1 } = (ms, 0) ∨ (5 < o.kd ∧ callF ms' { o with kd := 1 } = ([], 20) ∧ ∃ m, fdM ms o.nm = (m, true) ∧ m.su = true) by have := HB.out; unfold bck at this; rw [if_pos h0] at this; exact this)
      have HO2 : Hid (OkO { o with kd := 1 }) := ⟨by dsimp only; omega, HO.out.nm, HO.out.fr, HO.out.tt, HO.out.ro, by have := HO.out.am; dsimp only; unfold i64 at *; omega⟩
      have hal : Below wc.heap.size wc (wc.alloc (.cells #[.int .u8 1, .string o.nm, .string o.fr, .string o.tt, .int .u8 o.ro, .bool o.is, .int .i64 o.am] 48)) := (Below.refl _ _).alloc (Nat.le_refl _) _
      have B4 := Lib.hid (bt B3.out hal (Nat.le_refl _))
      have S_4 := Lib.hid (blk_keep S_3.out hal)
      have O_4 := Lib.hid (blk_keep O_3.out hal)
      have hs_4 := Lib.hid (hs_3.out.below hal)
      have ht_4 := Lib.hid (HT_3.out.below hal)
      clear hal HB h13 HK8 B3 S_3 O_3 hs_3 HT_3
      have HH := Lib.hid h0
      clear h0
      clear hk
      go_wp2_with fail
      clear l0 l1 l2 l3 l4 l5 l6 lol ls lsl
      generalize wc.alloc _ = w4 at B4 S_4 O_4 hs_4 ht_4 ⊢
      rcases HB2.out with hb1 | ⟨hk5, hb1, m, hfm, hsu⟩
      case inl =>
        refine (s_call a4 c4 n' ms' { o with kd := 1 } ms n 0 w4 hb1 HN'.out HN.out hn1 HO2.out HC2.out ht_4.out).mono ?_
        rintro e v5 ⟨au, cu, rfl, hU, hb⟩
        have hb0 := hb
        have ld0 := cell_of (blk_keep S_4.out hb) 0 _ rfl
        have ll0 := blk_lt (blk_keep S_4.out hb)
        have ld1 := cell_of (blk_keep O_4.out hb) 0 _ rfl
        have ll1 := blk_lt (blk_keep O_4.out hb)
        have hal : Below v5.heap.size v5 (v5.alloc (.cells #[.slice au n cu] 24)) := (Below.refl _ _).alloc (Nat.le_refl _) _
        have hnw := blk_new v5 (.cells #[.slice au n cu] 24)
        have B5 := Lib.hid (bt (bt B4.out hb (Nat.le_refl _)) hal (Nat.le_refl _))
        have S_5 := Lib.hid (blk_keep (blk_keep S_4.out hb) hal)
        have O_5 := Lib.hid (blk_keep (blk_keep O_4.out hb) hal)
        have hs_5 := Lib.hid ((hs_4.out.below hb).below hal)
        have ht_5 := Lib.hid ((ht_4.out.below hb).below hal)
        have hu_5 := Lib.hid ((hU.st).below hal)
        clear hb hb0 B4 S_4 O_4 hs_4 ht_4 hU hb1
        go_wp2_with fail
        clear ld0 ll0 ld1 ll1
        clear hal hnw
        generalize v5.alloc _ = w5 at B5 S_5 O_5 hs_5 ht_5 hu_5 ⊢
        refine (s_same au a cu c n n ms ms true w5 (decide_eq_true rfl) HN.out HN.out (by omega) HLN.out hu_5.out hs_5.out).mono ?_
        rintro e v6 ⟨rfl, hb⟩
        have hb0 := hb
        have B6 := Lib.hid (bt B5.out hb (Nat.le_refl _))
        have S_6 := Lib.hid (blk_keep S_5.out hb)
        have O_6 := Lib.hid (blk_keep O_5.out hb)
        have hs_6 := Lib.hid (hs_5.out.below hb)
        have ht_6 := Lib.hid (ht_5.out.below hb)
        have hu_6 := Lib.hid (hu_5.out.below hb)
        clear hb hb0 B5 S_5 O_5 hs_5 ht_5 hu_5 
        go_wp2_with fail
        go_ret
        exact ⟨rfl, B6.out⟩
      case inr =>
        exact absurd hk5 (by have := HH.out; omega)
    by_cases h4 : o.kd = 4
    case pos =>
      have e1 : 1 ≤ o.kd := by omega
      have e3 : ¬ o.kd ≤ 3 := by omega
      have e0 : (o.kd == 0) = false := by simp; omega
      have e4 : (o.kd == 4) = true := by simp [h4]
      have HB2 := Lib.hid (show callF ms' { o with kd := 5 } = (ms, 0) ∨ (5 < o.kd ∧ callF ms' { o with kd := 5 } = ([], 20) ∧ ∃ m, fdM ms o.nm = (m, true) ∧ m.su = true) by have := HB.out; unfold bck at this; rw [if_neg (by omega), if_pos h4] at this; exact this)
      have HO2 : Hid (OkO { o with kd := 5 }) := ⟨by dsimp only; omega, HO.out.nm, HO.out.fr, HO.out.tt, HO.out.ro, by have := HO.out.am; dsimp only; unfold i64 at *; omega⟩
      have hal : Below wc.heap.size wc (wc.alloc (.cells #[.int .u8 5, .string o.nm, .string o.fr, .string o.tt, .int .u8 o.ro, .bool o.is, .int .i64 o.am] 48)) := (Below.refl _ _).alloc (Nat.le_refl _) _
      have B4 := Lib.hid (bt B3.out hal (Nat.le_refl _))
      have S_4 := Lib.hid (blk_keep S_3.out hal)
      have O_4 := Lib.hid (blk_keep O_3.out hal)
      have hs_4 := Lib.hid (hs_3.out.below hal)
      have ht_4 := Lib.hid (HT_3.out.below hal)
      clear hal HB h13 HK8 B3 S_3 O_3 hs_3 HT_3
      have HH := Lib.hid h4
      clear h4 h0
      clear hk
      go_wp2_with fail
      clear l0 l1 l2 l3 l4 l5 l6 lol ls lsl
      generalize wc.alloc _ = w4 at B4 S_4 O_4 hs_4 ht_4 ⊢
      rcases HB2.out with hb1 | ⟨hk5, hb1, m, hfm, hsu⟩
      case inl =>
        refine (s_call a4 c4 n' ms' { o with kd := 5 } ms n 0 w4 hb1 HN'.out HN.out hn1 HO2.out HC2.out ht_4.out).mono ?_
        rintro e v5 ⟨au, cu, rfl, hU, hb⟩
        have hb0 := hb
        have ld0 := cell_of (blk_keep S_4.out hb) 0 _ rfl
        have ll0 := blk_lt (blk_keep S_4.out hb)
        have ld1 := cell_of (blk_keep O_4.out hb) 0 _ rfl
        have ll1 := blk_lt (blk_keep O_4.out hb)
        have hal : Below v5.heap.size v5 (v5.alloc (.cells #[.slice au n cu] 24)) := (Below.refl _ _).alloc (Nat.le_refl _) _
        have hnw := blk_new v5 (.cells #[.slice au n cu] 24)
        have B5 := Lib.hid (bt (bt B4.out hb (Nat.le_refl _)) hal (Nat.le_refl _))
        have S_5 := Lib.hid (blk_keep (blk_keep S_4.out hb) hal)
        have O_5 := Lib.hid (blk_keep (blk_keep O_4.out hb) hal)
        have hs_5 := Lib.hid ((hs_4.out.below hb).below hal)
        have ht_5 := Lib.hid ((ht_4.out.below hb).below hal)
        have hu_5 := Lib.hid ((hU.st).below hal)
        clear hb hb0 B4 S_4 O_4 hs_4 ht_4 hU hb1
        go_wp2_with fail
        clear ld0 ll0 ld1 ll1
        clear hal hnw
        generalize v5.alloc _ = w5 at B5 S_5 O_5 hs_5 ht_5 hu_5 ⊢
        refine (s_same au a cu c n n ms ms true w5 (decide_eq_true rfl) HN.out HN.out (by omega) HLN.out hu_5.out hs_5.out).mono ?_
        rintro e v6 ⟨rfl, hb⟩
        have hb0 := hb
        have B6 := Lib.hid (bt B5.out hb (Nat.le_refl _))
        have S_6 := Lib.hid (blk_keep S_5.out hb)
        have O_6 := Lib.hid (blk_keep O_5.out hb)
        have hs_6 := Lib.hid (hs_5.out.below hb)
        have ht_6 := Lib.hid (ht_5.out.below hb)
        have hu_6 := Lib.hid (hu_5.out.below hb)
        clear hb hb0 B5 S_5 O_5 hs_5 ht_5 hu_5 
        go_wp2_with fail
        go_ret
        exact ⟨rfl, B6.out⟩
      case inr =>
        exact absurd hk5 (by have := HH.out; omega)
    have hk6 : 5 < o.kd := by omega
    have hneg : IntKind.i64.wrap (-o.am) = -o.am := by have := sig_b (HSG.out hk6); exact IntWalk.i64_in _ (by omega)
    have hsig := sig_b (HSG.out hk6)
    have e1 : 1 ≤ o.kd := by omega
    have e3 : ¬ o.kd ≤ 3 := by omega
    have e0 : (o.kd == 0) = false := by simp; omega
    have e4 : (o.kd == 4) = false := by simp; omega
    clear h0 h4
    have HB2 := Lib.hid (show callF ms' { o with am := -o.am } = (ms, 0) ∨ (5 < o.kd ∧ callF ms' { o with am := -o.am } = ([], 20) ∧ ∃ m, fdM ms o.nm = (m, true) ∧ m.su = true) by have := HB.out; unfold bck at this; rw [if_neg (by omega), if_neg (by omega)] at this; exact this)
    have HO2 : Hid (OkO { o with am := -o.am }) := ⟨by dsimp only; omega, HO.out.nm, HO.out.fr, HO.out.tt, HO.out.ro, by have := HO.out.am; dsimp only; unfold i64 at *; omega⟩
    have hal : Below wc.heap.size wc (wc.alloc (.cells #[.int .u8 o.kd, .string o.nm, .string o.fr, .string o.tt, .int .u8 o.ro, .bool o.is, .int .i64 (-o.am)] 48)) := (Below.refl _ _).alloc (Nat.le_refl _) _
    have B4 := Lib.hid (bt B3.out hal (Nat.le_refl _))
    have S_4 := Lib.hid (blk_keep S_3.out hal)
    have O_4 := Lib.hid (blk_keep O_3.out hal)
    have hs_4 := Lib.hid (hs_3.out.below hal)
    have ht_4 := Lib.hid (HT_3.out.below hal)
    clear hal HB h13 HK8 B3 S_3 O_3 hs_3 HT_3
    clear hk
    go_wp2_with fail
    clear l0 l1 l2 l3 l4 l5 l6 lol ls lsl
    generalize wc.alloc _ = w4 at B4 S_4 O_4 hs_4 ht_4 ⊢
    rcases HB2.out with hb1 | ⟨hk5, hb1, m, hfm, hsu⟩
    case inl =>
      refine (s_call a4 c4 n' ms' { o with am := -o.am } ms n 0 w4 hb1 HN'.out HN.out hn1 HO2.out HC2.out ht_4.out).mono ?_
      rintro e v5 ⟨au, cu, rfl, hU, hb⟩
      have hb0 := hb
      have ld0 := cell_of (blk_keep S_4.out hb) 0 _ rfl
      have ll0 := blk_lt (blk_keep S_4.out hb)
      have ld1 := cell_of (blk_keep O_4.out hb) 0 _ rfl
      have ll1 := blk_lt (blk_keep O_4.out hb)
      have hal : Below v5.heap.size v5 (v5.alloc (.cells #[.slice au n cu] 24)) := (Below.refl _ _).alloc (Nat.le_refl _) _
      have hnw := blk_new v5 (.cells #[.slice au n cu] 24)
      have B5 := Lib.hid (bt (bt B4.out hb (Nat.le_refl _)) hal (Nat.le_refl _))
      have S_5 := Lib.hid (blk_keep (blk_keep S_4.out hb) hal)
      have O_5 := Lib.hid (blk_keep (blk_keep O_4.out hb) hal)
      have hs_5 := Lib.hid ((hs_4.out.below hb).below hal)
      have ht_5 := Lib.hid ((ht_4.out.below hb).below hal)
      have hu_5 := Lib.hid ((hU.st).below hal)
      clear hb hb0 B4 S_4 O_4 hs_4 ht_4 hU hb1
      go_wp2_with fail
      clear ld0 ll0 ld1 ll1
      clear hal hnw
      generalize v5.alloc _ = w5 at B5 S_5 O_5 hs_5 ht_5 hu_5 ⊢
      refine (s_same au a cu c n n ms ms true w5 (decide_eq_true rfl) HN.out HN.out (by omega) HLN.out hu_5.out hs_5.out).mono ?_
      rintro e v6 ⟨rfl, hb⟩
      have hb0 := hb
      have B6 := Lib.hid (bt B5.out hb (Nat.le_refl _))
      have S_6 := Lib.hid (blk_keep S_5.out hb)
      have O_6 := Lib.hid (blk_keep O_5.out hb)
      have hs_6 := Lib.hid (hs_5.out.below hb)
      have ht_6 := Lib.hid (ht_5.out.below hb)
      have hu_6 := Lib.hid (hu_5.out.below hb)
      clear hb hb0 B5 S_5 O_5 hs_5 ht_5 hu_5 
      go_wp2_with fail
      go_ret
      exact ⟨rfl, B6.out⟩
    case inr =>
      have HSU := Lib.hid hsu
      clear hsu
      refine (s_call a4 c4 n' ms' { o with am := -o.am } [] 0 20 w4 hb1 HN'.out rfl hn1 HO2.out HC2.out ht_4.out).mono ?_
      rintro e v5 ⟨au, cu, rfl, hU, hb⟩
      have hb0 := hb
      have ld0 := cell_of (blk_keep S_4.out hb) 0 _ rfl
      have ll0 := blk_lt (blk_keep S_4.out hb)
      have ld1 := cell_of (blk_keep O_4.out hb) 0 _ rfl
      have ll1 := blk_lt (blk_keep O_4.out hb)
      have ld2 := cell_of (blk_keep O_4.out hb) 1 _ rfl
      have ll2 := blk_lt (blk_keep O_4.out hb)
      have hal : Below v5.heap.size v5 (v5.alloc (.cells #[.slice au 0 cu] 24)) := (Below.refl _ _).alloc (Nat.le_refl _) _
      have hnw := blk_new v5 (.cells #[.slice au 0 cu] 24)
      have B5 := Lib.hid (bt (bt B4.out hb (Nat.le_refl _)) hal (Nat.le_refl _))
      have S_5 := Lib.hid (blk_keep (blk_keep S_4.out hb) hal)
      have O_5 := Lib.hid (blk_keep (blk_keep O_4.out hb) hal)
      have hs_5 := Lib.hid ((hs_4.out.below hb).below hal)
      have ht_5 := Lib.hid ((ht_4.out.below hb).below hal)
      clear hb hb0 B4 S_4 O_4 hs_4 ht_4 hU hb1
      go_wp2_with fail
      clear ld0 ll0 ld1 ll1 ld2 ll2
      clear hal hnw
      generalize v5.alloc _ = w5 at B5 S_5 O_5 hs_5 ht_5 ⊢
      refine (s_rfind a c n ms o.nm m m.ac.length true w5 hfm HN.out rfl (by omega) hs_5.out).mono ?_
      rintro e v6 ⟨am, cm, rfl, hAm, hb⟩
      have hb0 := hb
      have hal : Below v6.heap.size v6 (v6.alloc (.cells #[.string m.nm, .int .u8 m.ro, .bool m.su, .int .i64 m.lim, .slice am m.ac.length cm] 30)) := (Below.refl _ _).alloc (Nat.le_refl _) _
      have hnw := blk_new v6 (.cells #[.string m.nm, .int .u8 m.ro, .bool m.su, .int .i64 m.lim, .slice am m.ac.length cm] 30)
      have B6 := Lib.hid (bt (bt B5.out hb (Nat.le_refl _)) hal (Nat.le_refl _))
      have S_6 := Lib.hid (blk_keep (blk_keep S_5.out hb) hal)
      have O_6 := Lib.hid (blk_keep (blk_keep O_5.out hb) hal)
      have hs_6 := Lib.hid ((hs_5.out.below hb).below hal)
      have ht_6 := Lib.hid ((ht_5.out.below hb).below hal)
      clear hb hb0 B5 S_5 O_5 hs_5 ht_5 hAm hfm
      go_wp2_with fail
      clear hal hnw
      generalize v6.alloc _ = w6 at B6 S_6 O_6 hs_6 ht_6 ⊢
      go_ret
      exact ⟨by rw [HSU.out]; rfl, B6.out⟩
end Go.Proofs.Ytoemjpfoddeinaa.Mb
