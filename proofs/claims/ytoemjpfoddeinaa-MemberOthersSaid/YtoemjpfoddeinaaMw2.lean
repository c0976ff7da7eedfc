/-
  Member: the walk of MemberOthers.
-/
import Derived.Test.YtoemjpfoddeinaaMbU
import Derived.Test.YtoemjpfoddeinaaMbV
import Derived.Test.YtoemjpfoddeinaaMwR
namespace Go.Proofs.Ytoemjpfoddeinaa.Mb
open Go.RowKit Go.Proofs.Ytoemjpfoddeinaa Go.Proofs.Ytoemjpfoddeinaa.Ls Go.Proofs.Ytoemjpfoddeinaa.Kb
open Go.Proofs.Ytoemjpfoddeinaa.Nm hiding ret_bool ret_int

set_option maxRecDepth 100000 in
set_option maxHeartbeats 8000000 in
theorem others_walk {W : World} (a : Option Addr) (c : Nat) (xs : List P) (hz : ∀ x ∈ xs, RawM x.1) (hx : xs.length ≤ maxLen) (hA : AtM W a xs) (o : Opp) (ho : OkO o) :
    Calls Try.prog 8 #[.agg #[.slice a xs.length c], .agg #[.int .u8 o.kd, .string o.nm, .string o.fr, .string o.tt, .int .u8 o.ro, .bool o.is, .int .i64 o.am]] W fun e w' => e = .returned (.bool true) ∧ Below W.heap.size W w' := by
  have hb0 : Below W.heap.size W ((W.alloc (.cells #[.slice a xs.length c] 24)).alloc (.cells #[.int .u8 o.kd, .string o.nm, .string o.fr, .string o.tt, .int .u8 o.ro, .bool o.is, .int .i64 o.am] 48)) := ((Below.refl _ _).alloc (Nat.le_refl _) _).alloc (by simp) _
  have HX := Lib.hid (blk_two W (.cells #[.slice a xs.length c] 24) (.cells #[.int .u8 o.kd, .string o.nm, .string o.fr, .string o.tt, .int .u8 o.ro, .bool o.is, .int .i64 o.am] 48))
  have HA := Lib.hid hA
  have HZ := Lib.hid hz
  have HO := Lib.hid ho
  clear hA hz ho
  go_enter Try.func8, Try.ntmps8
  go_wp2_with fail
  generalize (W.alloc _).alloc _ = w0 at hb0 HX ⊢
  refine (alive_any w0).mono ?_
  rintro e w1 ⟨rfl, hb⟩
  have S1 := Lib.hid (blk_keep HX.out.1 hb)
  have O1 := Lib.hid (blk_keep HX.out.2 hb)
  have B1 := Lib.hid (bt hb0 hb (Nat.le_refl _))
  have ld := cell_of S1.out 0 _ rfl
  clear hb0 HX hb
  go_wp2_with fail
  clear ld
  refine (great_any a c xs w1 hx (HA.out.below B1.out)).mono ?_
  rintro e w2 ⟨rfl, hb⟩
  have S2 := Lib.hid (blk_keep S1.out hb)
  have O2 := Lib.hid (blk_keep O1.out hb)
  have B2 := Lib.hid (bt B1.out hb (Nat.le_refl _))
  clear S1 O1 B1 hb
  rcases Kb.hb (grB xs) with hg | hg
  case inl =>
    rw [hg]
    go_wp2_with fail
    go_ret
    exact ⟨rfl, B2.out⟩
  rw [hg]
  obtain ⟨hn80, hac⟩ := gr_small hg
  have HOK := Lib.hid (show OkMs (fst xs) from fun m hm => by
    obtain ⟨x, hx, rfl⟩ := List.mem_map.1 hm
    exact (HZ.out x hx).ok (by have := hac x hx; omega))
  have HST := Lib.hid (show St w2 a (fst xs) from ⟨xs, rfl, HA.out.below B2.out⟩)
  have HLN := Lib.hid (show ∀ m ∈ fst xs, m.ac.length ≤ 1000 from fun m hm => (HOK.out m hm).len)
  obtain ⟨n, hn⟩ : ∃ n, n = xs.length := ⟨_, rfl⟩
  have HN := Lib.hid (show (fst xs).length = n by rw [fst_len, hn])
  rw [← hn] at S2 hn80 ⊢
  obtain ⟨ms, hms⟩ : ∃ ms, ms = fst xs := ⟨_, rfl⟩
  rw [← hms] at HOK HST HLN HN
  clear hg hac HA HZ hx hn hms
  obtain ⟨ms', hms'⟩ : ∃ m, m = (callF ms o).1 := ⟨_, rfl⟩
  obtain ⟨er, her⟩ : ∃ e, e = (callF ms o).2 := ⟨_, rfl⟩
  have HCF := Lib.hid (show callF ms o = (ms', er) by rw [hms', her])
  obtain ⟨n', hn'⟩ : ∃ n', n' = ms'.length := ⟨_, rfl⟩
  have HN' := Lib.hid hn'.symm
  clear hms' her hn'
  have k2 : Below w2.heap.size w2 w2 := Below.refl _ _
  have kd := k2.drew
  have HK := Lib.hid (show ∀ wx, Below w2.heap.size w2 wx → wx.cell? ⟨W.heap.size, 0, none⟩ = some (.slice a n c) ∧ wx.cell? ⟨W.heap.size + 1, 0, none⟩ = some (.int .u8 o.kd) ∧ wx.cell? ⟨W.heap.size + 1, 1, none⟩ = some (.string o.nm) ∧ wx.cell? ⟨W.heap.size + 1, 2, none⟩ = some (.string o.fr) ∧ wx.cell? ⟨W.heap.size + 1, 3, none⟩ = some (.string o.tt) ∧ wx.cell? ⟨W.heap.size + 1, 4, none⟩ = some (.int .u8 o.ro) ∧ wx.cell? ⟨W.heap.size + 1, 5, none⟩ = some (.bool o.is) ∧ wx.cell? ⟨W.heap.size + 1, 6, none⟩ = some (.int .i64 o.am) from fun wx h => ⟨cell_of (blk_keep S2.out h) 0 _ rfl, cell_of (blk_keep O2.out h) 0 _ rfl, cell_of (blk_keep O2.out h) 1 _ rfl, cell_of (blk_keep O2.out h) 2 _ rfl, cell_of (blk_keep O2.out h) 3 _ rfl, cell_of (blk_keep O2.out h) 4 _ rfl, cell_of (blk_keep O2.out h) 5 _ rfl, cell_of (blk_keep O2.out h) 6 _ rfl⟩)
  have HTW := Lib.hid (fun wx (h : Below w2.heap.size w2 wx) => s_twin a c n ms wx HN.out (by omega) HLN.out (HST.out.below h))
  have HCA := Lib.hid (fun wx a3 c3 (h : St wx a3 ms) => s_call a3 c3 n ms o ms' n' er wx HCF.out HN.out HN'.out (by omega) HO.out HOK.out h)
  go_upto_region 4 with fail
  go_cut [6, 7] from 22 to 28 (fun p q wn => ∃ (B : Nat) (a4 : Option Addr) (c4 : Nat), p = .pointer (some ⟨B, 0, none⟩) ∧ q = .int .i64 er ∧ Hid (wn.heap[B]? = some (.cells #[.slice a4 n' c4] 24 (0, 0)) ∧ Below w2.heap.size w2 wn ∧ St wn a4 ms'))
  case first =>
    go_region_held3 (fun wx => wx.cell? ⟨W.heap.size, 0, none⟩ = some (.slice a n c) ∧ wx.cell? ⟨W.heap.size + 1, 0, none⟩ = some (.int .u8 o.kd) ∧ wx.cell? ⟨W.heap.size + 1, 1, none⟩ = some (.string o.nm) ∧ wx.cell? ⟨W.heap.size + 1, 2, none⟩ = some (.string o.fr) ∧ wx.cell? ⟨W.heap.size + 1, 3, none⟩ = some (.string o.tt) ∧ wx.cell? ⟨W.heap.size + 1, 4, none⟩ = some (.int .u8 o.ro) ∧ wx.cell? ⟨W.heap.size + 1, 5, none⟩ = some (.bool o.is) ∧ wx.cell? ⟨W.heap.size + 1, 6, none⟩ = some (.int .i64 o.am))
      (first | exact HK.out _ (by assumption) | exact HK.out _ (Below.drew (by assumption)) | exact HK.out _ (below_al (by assumption) _) | exact HK.out _ HFN.out.2.1 | go_keep)
      (first
        | (go_at_call 12; refine (HTW.out w2.drew kd).mono ?_; rintro e w3 ⟨a3, c3, rfl, hT3, hb3⟩; have k3 : Below w2.heap.size w2 w3 := bt kd hb3 (Nat.le_refl _); have HT3 := Lib.hid hT3)
        | (go_at_call 12; refine (HTW.out (w2.drew.alloc (.cells #[.slice none 0 0] 24)) (below_al kd _)).mono ?_; rintro e w3 ⟨a3, c3, rfl, hT3, hb3⟩; have k3 : Below w2.heap.size w2 w3 := bt (below_al kd _) hb3 (Nat.le_refl _); have HT3 := Lib.hid hT3; have ZB := Lib.hid (show w3.heap[w2.heap.size]? = some (.cells #[.slice none 0 0] 24 (0, 0)) from blk_keep (blk_new w2.drew (.cells #[.slice none 0 0] 24)) hb3))
        | (go_at_call 26; refine (HCA.out w3 a3 c3 HT3.out.st).mono ?_; rintro e w4 ⟨a4, c4, rfl, hT4, hb4⟩; have ZC := Lib.hid (blk_keep ZB.out hb4); have k4 : Below w2.heap.size w2 w4 := bt k3 hb4 (Nat.le_refl _); have z0 := cell_of ZC.out 0 _ rfl; have zf := frozen_of ZC.out 0; have HFN := Lib.hid (t_set (n := n') k4 ZC.out hT4 (Nat.le_refl _)))
        | (go_at_call 26; refine (HCA.out w3 a3 c3 HT3.out.st).mono ?_; rintro e w4 ⟨a4, c4, rfl, hT4, hb4⟩; have k4 : Below w2.heap.size w2 w4 := bt k3 hb4 (Nat.le_refl _); have HFN := Lib.hid (t_new (n := n') k4 hT4))
        | (go_at_call 26; refine (HCA.out (w3.alloc (.cells #[.slice none 0 0] 24)) a3 c3 (HT3.out.st.below (below_al (Below.refl _ _) _))).mono ?_; rintro e w4 ⟨a4, c4, rfl, hT4, hb4⟩; have k4 : Below w2.heap.size w2 w4 := bt (below_al k3 _) hb4 (Nat.le_refl _); have ZC := Lib.hid (blk_keep (blk_new w3 (.cells #[.slice none 0 0] 24)) hb4); have z0 := cell_of ZC.out 0 _ rfl; have zf := frozen_of ZC.out 0; have HFN := Lib.hid (t_set (n := n') k4 ZC.out hT4 k3.size)))
    all_goals
      go_wp2
      go_meet
      case rel => exact ⟨_, _, _, rfl, rfl, HFN⟩
  case rest =>
    obtain ⟨XT, a4, c4, rfl, rfl, HBX⟩ := hcut
    have hb := HBX.out.2.1
    have B3 := Lib.hid (bt B2.out hb (Nat.le_refl _))
    have S_3 := Lib.hid (blk_keep S2.out hb)
    have O_3 := Lib.hid (blk_keep O2.out hb)
    have hs_3 := Lib.hid (HST.out.below hb)
    have T_3 := Lib.hid HBX.out.1
    have HT_3 := Lib.hid HBX.out.2.2
    clear hb HBX k2 kd HK HTW HCA B2 S2 O2 HST
    by_cases he : er = 0
    case neg =>
      have he' : (er != 0) = true := by simpa using he
      go_wp2_with fail
      go_ret
      exact ⟨rfl, B3.out⟩
    subst he
    obtain ⟨h1, h2⟩ := call_others HCF.out
    have HO1 := Lib.hid h1
    have HO2 := Lib.hid h2
    have hn81 : n' ≤ 81 := by
      have e1 : (oth ms o.nm).length ≤ ms.length := List.length_filter_le _ _
      have e2 := HN.out
      have e3 := HN'.out
      split at h2 <;> omega
    have BX := Lib.hid (show ∀ wx, Below wc.heap.size wc wx → wx.heap[W.heap.size]? = some (.cells #[.slice a n c] 24 (0, 0)) ∧ wx.heap[W.heap.size + 1]? = some (.cells #[.int .u8 o.kd, .string o.nm, .string o.fr, .string o.tt, .int .u8 o.ro, .bool o.is, .int .i64 o.am] 48 (0, 0)) ∧ wx.heap[XT]? = some (.cells #[.slice a4 n' c4] 24 (0, 0)) ∧ St wx a ms ∧ St wx a4 ms' ∧ Below W.heap.size W wx from fun wx h => ⟨blk_keep S_3.out h, blk_keep O_3.out h, blk_keep T_3.out h, hs_3.out.below h, HT_3.out.below h, bt B3.out h (Nat.le_refl _)⟩)
    clear h1 h2 HCF S_3 O_3 hs_3 T_3 HT_3 B3
    go_wp2_with fail
    go_loopw [8, 9, 10, 11] (fun cn i _ _ wr => ∃ k : Nat, k ≤ n ∧ i = .int .i64 k ∧ cn = .int .i64 ((oth (ms.take k) o.nm).length : Nat) ∧ Hid (Below wc.heap.size wc wr)) (fun _ i _ _ _ => n - (intOf i).toNat)
    case atStart => exact ⟨0, by omega, rfl, rfl, Below.refl _ _⟩
    case round =>
      obtain ⟨k, hk, rfl, rfl, HB⟩ := hrel
      obtain ⟨hs, ho, ht, hst, htt, hbw⟩ := BX.out wr HB.out
      have x0 := cell_of hs 0 _ rfl
      by_cases hlt : k < n
      · have k0 : (0 : Int) ≤ k := by omega
        have k1 : (k : Int) < n := by omega
        obtain ⟨b, off, pa, pc, rfl, q0, q1, q2, q3, q4, hac⟩ := hst.at k (by rw [HN.out]; exact hlt)
        have o1 := cell_of ho 1 _ rfl
        have HMEM := Lib.hid (gm_mem ms k (by rw [HN.out]; exact hlt))
        have HTK := Lib.hid (oth_take ms o.nm k (by rw [HN.out]; exact hlt))
        have HCN := Lib.hid (oth_take_le ms o.nm k)
        by_cases hx : (gm ms k).nm = o.nm
        · have HT2 := Lib.hid (show (oth (ms.take (k + 1)) o.nm).length = (oth (ms.take k) o.nm).length by rw [HTK.out, if_pos hx]; rfl)
          have he := eq_yes hx
          generalize gm ms k = x at q0 q1 q2 q3 q4 he
          clear hx HTK hac hs ho ht hst htt hbw HMEM q1 q2 q3 q4
          go_wp2_with fail
          go_quiet (fail)
          go_wp2
          go_roundw
          case rel => exact ⟨k + 1, by omega, by go_num, by rw [HT2.out], below_drewN HB.out _⟩
          case measure => simp [intOf]; omega
        · have HT2 := Lib.hid (show (oth (ms.take (k + 1)) o.nm).length = (oth (ms.take k) o.nm).length + 1 by rw [HTK.out, if_neg hx])
          have HFD := Lib.hid (HO1.out _ HMEM.out hx)
          have HLX := Lib.hid (HLN.out _ HMEM.out)
          have he := eq_no hx
          have hcl : ((oth (ms.take k) o.nm).length : Nat) ≤ 80 := by have := HCN.out; omega
          have hwr : IntKind.i64.wrap (((oth (ms.take k) o.nm).length : Nat) + 1 : Int) = ((oth (ms.take k) o.nm).length : Nat) + 1 := IntWalk.i64_in _ (by omega)
          generalize gm ms k = x at q0 q1 q2 q3 q4 he HFD HLX hac
          obtain ⟨cn, hcn⟩ : ∃ cn : Nat, cn = (oth (ms.take k) o.nm).length := ⟨_, rfl⟩
          rw [← hcn] at HT2 hwr ⊢
          have EL := Lib.hid (show ∀ wx, Below wr.heap.size wr wx → wx.cell? ⟨XT, 0, none⟩ = some (.slice a4 n' c4) ∧ (wx.cell? ⟨W.heap.size, 0, none⟩ = some (.slice (some ⟨b, off, none⟩) n c) ∧ wx.cell? ⟨b, off + k * 5, none⟩ = some (.string x.nm) ∧ wx.cell? ⟨b, off + k * 5 + 1, none⟩ = some (.int .u8 x.ro) ∧ wx.cell? ⟨b, off + k * 5 + 2, none⟩ = some (.bool x.su) ∧ wx.cell? ⟨b, off + k * 5 + 3, none⟩ = some (.int .i64 x.lim) ∧ wx.cell? ⟨b, off + k * 5 + 4, none⟩ = some (.slice pa x.ac.length pc)) ∧ AtL wx 4 acc pa x.ac from fun wx h => ⟨cell_of (blk_keep ht h) 0 _ rfl, ⟨keep x0 h, keep q0 h, keep q1 h, keep q2 h, keep q3 h, keep q4 h⟩, hac.below h⟩)
          have EK := Lib.hid (show ∀ wx, Below wr.heap.size wr wx → wx.cell? ⟨XT, 0, none⟩ = some (.slice a4 n' c4) ∧ wx.cell? ⟨W.heap.size, 0, none⟩ = some (.slice (some ⟨b, off, none⟩) n c) ∧ wx.cell? ⟨b, off + k * 5, none⟩ = some (.string x.nm) from fun wx h => ⟨(EL.out wx h).1, (EL.out wx h).2.1.1, (EL.out wx h).2.1.2.1⟩)
          have HFI := Lib.hid (fun wx (h : Below wr.heap.size wr wx) => s_rfind a4 c4 n' ms' x.nm x x.ac.length true wx HFD.out HN'.out rfl (by omega) (htt.below h))
          clear hx HTK hs ho ht hst htt hbw HMEM hac hcn hcl HFD
          go_wp2_with fail
          go_quiet (fail)
          go_upto_region 13 with fail
          generalize hwn : wr.drewN _ = wn
          have kb : Below wr.heap.size wr wn := by rw [← hwn]; exact below_drewN (Below.refl _ _) _
          clear hwn x0 q0 q1 q2 q3 q4 he
          have kd := kb.drew
          go_cut [10, 11] from 50 to 60 (fun p q wf => ∃ (B : Nat) (pm : Option Addr) (cm : Nat), p = .pointer (some ⟨B, 0, none⟩) ∧ q = .bool true ∧ Hid (wf.heap[B]? = some (.cells #[.string x.nm, .int .u8 x.ro, .bool x.su, .int .i64 x.lim, .slice pm x.ac.length cm] 30 (0, 0)) ∧ Below wr.heap.size wr wf ∧ AtL wf 4 acc pm x.ac))
          case first =>
            go_region_held3 (fun wx => wx.cell? ⟨XT, 0, none⟩ = some (.slice a4 n' c4) ∧ wx.cell? ⟨W.heap.size, 0, none⟩ = some (.slice (some ⟨b, off, none⟩) n c) ∧ wx.cell? ⟨b, off + k * 5, none⟩ = some (.string x.nm))
              (first | with_reducible exact EK.out _ HFN.out.2.1 | with_reducible exact EK.out _ k3 | with_reducible exact EK.out _ kd | with_reducible exact EK.out _ (below_al k3 _) | with_reducible exact EK.out _ (below_al kb _).drew | with_reducible exact EK.out _ (below_al kd _))
              (first
                | (go_at_call 25; refine (HFI.out wn.drew kd).mono ?_; rintro e w3 ⟨am, cm, rfl, hT3, hb3⟩; have k3 : Below wr.heap.size wr w3 := bt kd hb3 (Nat.le_refl _); have HFN := Lib.hid (m_new (m := x) (n := x.ac.length) (c := cm) k3 hT3))
                | (go_at_call 25; refine (HFI.out (wn.drew.alloc (.cells #[.string ⟨#[]⟩, .int .u8 0, .bool false, .int .i64 0, .slice none 0 0] 30)) (below_al kd _)).mono ?_; rintro e w3 ⟨am, cm, rfl, hT3, hb3⟩; have k3 : Below wr.heap.size wr w3 := bt (below_al kd _) hb3 (Nat.le_refl _); have ZC := Lib.hid (show w3.heap[wn.heap.size]? = some (.cells #[.string ⟨#[]⟩, .int .u8 0, .bool false, .int .i64 0, .slice none 0 0] 30 (0, 0)) from blk_keep (blk_new wn.drew (.cells #[.string ⟨#[]⟩, .int .u8 0, .bool false, .int .i64 0, .slice none 0 0] 30)) hb3); have z0 := cell_of ZC.out 0 _ rfl; have z1 := cell_of ZC.out 1 _ rfl; have z2 := cell_of ZC.out 2 _ rfl; have z3 := cell_of ZC.out 3 _ rfl; have z4 := cell_of ZC.out 4 _ rfl; have f0 := frozen_of ZC.out 0; have f1 := frozen_of ZC.out 1; have f2 := frozen_of ZC.out 2; have f3 := frozen_of ZC.out 3; have f4 := frozen_of ZC.out 4; have HFN := Lib.hid (m_set (m := x) (n := x.ac.length) (c := cm) k3 ZC.out hT3 kb.size)))
            all_goals
              go_wp2
              go_meet
              case rel => exact ⟨_, _, _, rfl, rfl, HFN⟩
          case rest =>
            obtain ⟨XM, pm, cm, rfl, rfl, HBX⟩ := hcut
    
            have M0 := HBX.out.1
            have kx := HBX.out.2.1
            have HMA := Lib.hid HBX.out.2.2
            have kxd := kx.drew
            have FK := Lib.hid (show ∀ wx, Below wc.heap.size wc wx → wx.cell? ⟨W.heap.size, 0, none⟩ = some (.slice (some ⟨b, off, none⟩) n c) ∧ wx.cell? ⟨b, off + k * 5, none⟩ = some (.string x.nm) ∧ wx.cell? ⟨b, off + k * 5 + 1, none⟩ = some (.int .u8 x.ro) ∧ wx.cell? ⟨b, off + k * 5 + 2, none⟩ = some (.bool x.su) ∧ wx.cell? ⟨b, off + k * 5 + 3, none⟩ = some (.int .i64 x.lim) ∧ wx.cell? ⟨b, off + k * 5 + 4, none⟩ = some (.slice pa x.ac.length pc) ∧ wx.cell? ⟨XM, 0, none⟩ = some (.string x.nm) ∧ wx.cell? ⟨XM, 1, none⟩ = some (.int .u8 x.ro) ∧ wx.cell? ⟨XM, 2, none⟩ = some (.bool x.su) ∧ wx.cell? ⟨XM, 3, none⟩ = some (.int .i64 x.lim) ∧ wx.cell? ⟨XM, 4, none⟩ = some (.slice pm x.ac.length cm) from fun wx h => ⟨(EL.out wx (bt kx h (Nat.le_refl _))).2.1.1, (EL.out wx (bt kx h (Nat.le_refl _))).2.1.2.1, (EL.out wx (bt kx h (Nat.le_refl _))).2.1.2.2.1, (EL.out wx (bt kx h (Nat.le_refl _))).2.1.2.2.2.1, (EL.out wx (bt kx h (Nat.le_refl _))).2.1.2.2.2.2.1, (EL.out wx (bt kx h (Nat.le_refl _))).2.1.2.2.2.2.2, cell_of (blk_keep M0 h) 0 _ rfl, cell_of (blk_keep M0 h) 1 _ rfl, cell_of (blk_keep M0 h) 2 _ rfl, cell_of (blk_keep M0 h) 3 _ rfl, cell_of (blk_keep M0 h) 4 _ rfl⟩)
            have j0 : Below wc.heap.size wc wc := Below.refl _ _
            have jd := j0.drew
            have HSM := Lib.hid (fun wx (h : Below wc.heap.size wc wx) => s_samem pm pa cm pc x.ac.length x.ac.length x x true wx (decide_eq_true rfl) rfl rfl HLX.out (HMA.out.below h) ((EL.out wx (bt kx h (Nat.le_refl _))).2.2))
            clear HBX M0 HFI EK kb kd hwr
            go_wp2_with fail
            go_region_held3 (fun wx => wx.cell? ⟨W.heap.size, 0, none⟩ = some (.slice (some ⟨b, off, none⟩) n c) ∧ wx.cell? ⟨b, off + k * 5, none⟩ = some (.string x.nm) ∧ wx.cell? ⟨b, off + k * 5 + 1, none⟩ = some (.int .u8 x.ro) ∧ wx.cell? ⟨b, off + k * 5 + 2, none⟩ = some (.bool x.su) ∧ wx.cell? ⟨b, off + k * 5 + 3, none⟩ = some (.int .i64 x.lim) ∧ wx.cell? ⟨b, off + k * 5 + 4, none⟩ = some (.slice pa x.ac.length pc) ∧ wx.cell? ⟨XM, 0, none⟩ = some (.string x.nm) ∧ wx.cell? ⟨XM, 1, none⟩ = some (.int .u8 x.ro) ∧ wx.cell? ⟨XM, 2, none⟩ = some (.bool x.su) ∧ wx.cell? ⟨XM, 3, none⟩ = some (.int .i64 x.lim) ∧ wx.cell? ⟨XM, 4, none⟩ = some (.slice pm x.ac.length cm))
              (first | with_reducible exact FK.out _ j3 | with_reducible exact FK.out _ jd)
              ((go_at_call 31; refine (HSM.out wc.drew jd).mono ?_; rintro e w5 ⟨rfl, hb5⟩; have j3 : Below wc.heap.size wc w5 := bt jd hb5 (Nat.le_refl _)))
            go_wp2
            go_roundw
            case rel => exact ⟨k + 1, by omega, by go_num, by rw [HT2.out]; rfl, bt HB.out (bt kx j3 (Nat.le_refl _)) (Nat.le_refl _)⟩
            case measure => simp [intOf]; omega
      · obtain rfl : k = n := by omega
        have HTN := Lib.hid (show ms.take k = ms from List.take_of_length_le (by rw [HN.out]; omega))
        rw [HTN.out]
        have o1 := cell_of ho 1 _ rfl
        have x1 := cell_of ht 0 _ rfl
        obtain ⟨mo, hmo⟩ : ∃ m, m = (fdM ms' o.nm).1 := ⟨_, rfl⟩
        obtain ⟨ow, how⟩ : ∃ b, b = (fdM ms' o.nm).2 := ⟨_, rfl⟩
        obtain ⟨cn, hcn⟩ : ∃ cn : Nat, cn = (oth ms o.nm).length := ⟨_, rfl⟩
        have HFI := Lib.hid (s_rfind a4 c4 n' ms' o.nm mo mo.ac.length ow wr (by rw [hmo, how]) HN'.out rfl (by omega) htt)
        have HCN := Lib.hid (show n' = cn + if ow then 1 else 0 by rw [hcn, how, ← HN'.out]; exact HO2.out)
        rw [← hcn]
        have HBW := Lib.hid hbw
        have HT := Lib.hid ht
        clear hs ho hst htt hbw ht hmo how hcn HTN
        go_wp2_with fail
        refine HFI.out.mono ?_
        rintro e w5 ⟨a5, c5, rfl, hA5, hb5⟩
        have hal : Below w5.heap.size w5 (w5.alloc (.cells #[.string mo.nm, .int .u8 mo.ro, .bool mo.su, .int .i64 mo.lim, .slice a5 mo.ac.length c5] 30)) := (Below.refl _ _).alloc (Nat.le_refl _) _
        have x5 := cell_of (blk_keep HT.out hb5) 0 _ rfl
        have xl5 := blk_lt (blk_keep HT.out hb5)
        have HBF := Lib.hid (bt (bt HBW.out hb5 (Nat.le_refl _)) hal (Nat.le_refl _))
        clear x0 o1 x1 hA5 hb5 HBW HT hal
        cases ow
        · have e1 : n' = cn := HCN.out
          have e2 : ((n' : Int) == (cn : Int)) = true := by rw [e1]; simp
          go_wp2_with fail
          go_ret
          exact ⟨rfl, HBF.out⟩
        · have e1 : n' = cn + 1 := HCN.out
          have e2 : ((n' : Int) == (cn : Int) + 1) = true := by rw [e1]; simp
          have e3 : IntKind.i64.wrap ((cn : Int) + 1) = (cn : Int) + 1 := IntWalk.i64_in _ (by omega)
          clear e1
          go_wp2_with fail
          go_ret
          exact ⟨rfl, HBF.out⟩
end Go.Proofs.Ytoemjpfoddeinaa.Mb
