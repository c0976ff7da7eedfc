/-
  Member: the walk of the reference's Right.
-/
import Derived.Test.YtoemjpfoddeinaaMwA
namespace Go.Proofs.Ytoemjpfoddeinaa.Mb
open Go.RowKit Go.Proofs.Ytoemjpfoddeinaa Go.Proofs.Ytoemjpfoddeinaa.Ls Go.Proofs.Ytoemjpfoddeinaa.Kb
open Go.Proofs.Ytoemjpfoddeinaa.Nm hiding ret_bool ret_int

theorem srt_take {l : List Ac} (h : ∀ i, 0 < i → i < l.length → lt (ga l (i - 1)).nm (ga l i).nm = true) : srt (l.map Ac.nm) = true := by
  rw [srt_iff]
  intro i h0 hi
  rw [List.length_map] at hi
  rw [gs_a, gs_a]
  exact h i h0 hi
theorem srt_bad {l : List Ac} {i : Nat} (h0 : 0 < i) (hi : i < l.length) (h : lt (ga l (i - 1)).nm (ga l i).nm = false) : srt (l.map Ac.nm) = false := srt_no h0 (by rw [List.length_map]; exact hi) (by rw [gs_a, gs_a]; exact h)
/-- the order of two neighbours -/
def ordB (l : List Ac) (k : Nat) : Bool := decide (k = 0) || lt (ga l (k - 1)).nm (ga l k).nm
theorem ord_all {l : List Ac} (h : ∀ i, i < l.length → ordB l i = true) : srt (l.map Ac.nm) = true := srt_take fun i h0 hi => by
  have := h i hi
  unfold ordB at this
  rw [decide_eq_false (by omega), Bool.false_or] at this
  exact this
theorem ord_bad {l : List Ac} {i : Nat} (hi : i < l.length) (h : ordB l i = false) : srt (l.map Ac.nm) = false := by
  unfold ordB at h
  rw [Bool.or_eq_false_iff] at h
  exact srt_bad (by have := of_decide_eq_false h.1; omega) hi h.2
theorem okA_of (ro : Int) (a : Ac) : okA ro a = (nm a.nm && !(a.cl && (ro == 2)) && mon a.lim && !decide (a.us < -a.lim) && !decide (a.lim < a.us)) := rfl

set_option maxRecDepth 100000 in
set_option maxHeartbeats 8000000 in
theorem right_any (x : P) (w : World) (hZ : OkM x.1) (hA : AtL w 4 acc x.2.1 x.1.ac) :
    Calls Try.prog 74 #[.agg #[.string x.1.nm, .int .u8 x.1.ro, .bool x.1.su, .int .i64 x.1.lim, .slice x.2.1 x.1.ac.length x.2.2]] w fun e w' => e = .returned (.bool (val x.1)) ∧ Below w.heap.size w w' := by
  have HV := Lib.hid (val_of x.1)
  generalize val x.1 = V at HV ⊢
  obtain ⟨⟨N, ro, su, lim, L⟩, a, c⟩ := x
  have hnm := hZ.nm
  have hn := hZ.len
  have HZA := Lib.hid hZ.ac
  clear hZ
  dsimp only at *
  have HA := Lib.hid hA
  have hbo : Below w.heap.size w (w.alloc (.cells #[.string N, .int .u8 ro, .bool su, .int .i64 lim, .slice a L.length c] 30)) := (Below.refl _ _).alloc (Nat.le_refl _) _
  have HX := Lib.hid (blk_new w (.cells #[.string N, .int .u8 ro, .bool su, .int .i64 lim, .slice a L.length c] 30))
  clear hA
  obtain ⟨p, hp⟩ : ∃ p, p = party N := ⟨_, rfl⟩
  have HP := Lib.hid (show ∀ wx, Calls Try.prog 86 #[.string N] wx fun e w' => e = .returned (.bool p) ∧ w' = wx from fun wx => rparty_q N p wx hnm hp.symm)
  obtain ⟨mo, hmo⟩ : ∃ p, p = mon lim := ⟨_, rfl⟩
  have HMO := Lib.hid (show ∀ wx, Calls Try.prog 87 #[.int .i64 lim] wx fun e w' => e = .returned (.bool mo) ∧ w' = wx from fun wx => rmoney_q lim mo wx hmo.symm)
  have HV0 := Lib.hid (show V = (p && (ro == 1 || ro == 2) && mo && decide (L.length ≤ 16) && srt (L.map Ac.nm) && L.all (okA ro) && decide (ex L ≤ lim)) by rw [HV.out, hp, hmo]; rfl)
  clear HV hp hmo hnm
  cases p
  case false =>
    have HVF := Lib.hid (show V = false by rw [HV0.out]; rfl)
    go_enter Try.func74, Try.ntmps74
    go_wp2_with fail
    refine (HP.out _).mono ?_
    rintro e w1 ⟨rfl, rfl⟩
    go_wp2_with fail
    go_ret
    exact ⟨ret_bool HVF.out.symm, hbo⟩
  by_cases h3 : ro = 1 ∨ ro = 2
  case neg =>
    have r1 : (ro != 1) = true := by simp; omega
    have r2 : (ro != 2) = true := by simp; omega
    have r3 : ¬ ro = 1 := by omega
    have r4 : ¬ ro = 2 := by omega
    have HVF := Lib.hid (show V = false by
      rw [HV0.out, show (ro == 1) = false by simp; omega, show (ro == 2) = false by simp; omega]
      simp)
    clear h3 HV0
    go_enter Try.func74, Try.ntmps74
    go_wp2_with fail
    refine (HP.out _).mono ?_
    rintro e w1 ⟨rfl, rfl⟩
    go_wp2_with fail
    go_ret
    exact ⟨ret_bool (by rw [HVF.out]), hbo⟩
  have HR := Lib.hid (show (ro == 1 || ro == 2) = true by rcases h3 with rfl | rfl <;> rfl)
  obtain ⟨b1, hb1⟩ : ∃ b1, b1 = (ro != 1) := ⟨_, rfl⟩
  obtain ⟨b2, hb2⟩ : ∃ b2, b2 = (ro == 2) := ⟨_, rfl⟩
  have r1 := hb1.symm
  have r2 := hb2.symm
  have r3 : (ro != 2) = !b2 := by rw [← r2]; rfl
  have HBB := Lib.hid (show b1 = b2 by rcases h3 with rfl | rfl <;> (rw [hb1, hb2]; rfl))
  clear hb1 hb2 h3
  obtain rfl := HBB.out
  clear HBB
  have HV1 := Lib.hid (show V = (mo && decide (L.length ≤ 16) && srt (L.map Ac.nm) && L.all (okA ro) && decide (ex L ≤ lim)) by rw [HV0.out, HR.out]; simp)
  clear HV0 HR
  cases mo
  case false =>
    have HVF := Lib.hid (show V = false by rw [HV1.out]; rfl)
    clear HV1
    cases b1
    all_goals
      go_enter Try.func74, Try.ntmps74
      go_wp2_with fail
      refine (HP.out _).mono ?_
      rintro e w1 ⟨rfl, rfl⟩
      go_wp2_with fail
      refine (HMO.out _).mono ?_
      rintro e w1 ⟨rfl, rfl⟩
      go_wp2_with fail
      go_ret
      exact ⟨ret_bool (by rw [HVF.out]), hbo⟩
  rcases Nat.lt_or_ge 16 L.length with h5 | h5
  case inl =>
    have HVF := Lib.hid (show V = false by rw [HV1.out, decide_eq_false (by omega)]; rfl)
    have h5' : (16 : Int) < L.length := by omega
    clear HV1
    cases b1
    all_goals
      go_enter Try.func74, Try.ntmps74
      go_wp2_with fail
      refine (HP.out _).mono ?_
      rintro e w1 ⟨rfl, rfl⟩
      go_wp2_with fail
      refine (HMO.out _).mono ?_
      rintro e w1 ⟨rfl, rfl⟩
      go_wp2_with fail
      go_ret
      exact ⟨ret_bool (by rw [HVF.out]), hbo⟩
  have h5' : ¬ (16 : Int) < L.length := by omega
  have HV2 := Lib.hid (show V = (srt (L.map Ac.nm) && L.all (okA ro) && decide (ex L ≤ lim)) by rw [HV1.out, decide_eq_true h5]; simp)
  clear HV1
  cases b1
  case false =>
    go_enter Try.func74, Try.ntmps74
    go_wp2_with fail
    refine (HP.out _).mono ?_
    rintro e w1 ⟨rfl, rfl⟩
    go_wp2_with fail
    refine (HMO.out _).mono ?_
    rintro e w1 ⟨rfl, rfl⟩
    clear HMO HP
    generalize hwo : w.alloc _ = wo at hbo HX ⊢
    clear hwo
    have x4 := cell_of HX.out 4 _ rfl
    go_wp2_with fail
    clear x4
    go_loopw [3, 4] (fun i _ wr => ∃ k : Nat, k ≤ L.length ∧ i = .int .i64 k ∧ Hid (∀ i, i < k → okA ro (ga L i) = true ∧ ordB L i = true) ∧ Hid (Below wo.heap.size wo wr)) (fun i _ _ => L.length - (intOf i).toNat)
    case atStart => exact ⟨0, by omega, rfl, fun i hi => by omega, Below.refl _ _⟩
    case round =>
      obtain ⟨k, hk, rfl, HG, HB⟩ := hrel
      have hbw := bt hbo HB.out (Nat.le_refl _)
      have x1 := cell_of (blk_keep HX.out HB.out) 1 _ rfl
      have x4 := cell_of (blk_keep HX.out HB.out) 4 _ rfl
      by_cases hlt : k < L.length
      · have k0 : (0 : Int) ≤ k := by omega
        have k1 : (k : Int) < L.length := by omega
        have HPREV := Lib.hid (show 0 < k → ∃ b off, a = some ⟨b, off, none⟩ ∧ wr.cell? ⟨b, off + (k - 1) * 4, none⟩ = some (.string (ga L (k - 1)).nm) from fun h => by
          obtain ⟨b, off, ha, q, _⟩ := at_a (HA.out.below hbw) (k - 1) (by omega)
          exact ⟨b, off, ha, q⟩)
        obtain ⟨b, off, rfl, q0, q1, q2, q3⟩ := at_a (HA.out.below hbw) k hlt
        have hzk := HZA.out _ (ga_mem L k hlt)
        have HOR := Lib.hid (show ordB L k = (decide (k = 0) || lt (ga L (k - 1)).nm (ga L k).nm) from rfl)
        have HOA := Lib.hid (okA_of ro (ga L k))
        have HBAD1 := Lib.hid (show okA ro (ga L k) = false → V = false from fun h => by rw [HV2.out, not_all_okA hlt h]; simp)
        have HBAD2 := Lib.hid (show ordB L k = false → V = false from fun h => by rw [HV2.out, ord_bad hlt h]; simp)
        have HGS := Lib.hid (show okA ro (ga L k) = true → ordB L k = true → ∀ i, i < k + 1 → okA ro (ga L i) = true ∧ ordB L i = true from fun h1 h2 i hi => by
          rcases Nat.eq_or_lt_of_le (show i ≤ k by omega) with e | e
          · rw [e]; exact ⟨h1, h2⟩
          · exact HG.out i e)
        obtain ⟨O, hO⟩ : ∃ O, O = ordB L k := ⟨_, rfl⟩
        obtain ⟨K, hK⟩ : ∃ K, K = okA ro (ga L k) := ⟨_, rfl⟩
        rw [← hO] at HOR HBAD2 HGS
        rw [← hK] at HOA HBAD1 HGS
        generalize ga L k = y at q0 q1 q2 q3 hzk HOR HOA
        generalize ga L (k - 1) = z at HPREV HOR
        clear hO hK HG
        have hyn := hzk.nm
        have HYL := Lib.hid hzk.lim
        clear hzk
        have HBOX := Lib.hid (blk_new wr (.cells #[.string y.nm, .bool y.cl, .int .i64 y.lim, .int .i64 y.us] 32))
        have HAL := Lib.hid (show Below wr.heap.size wr (wr.alloc (.cells #[.string y.nm, .bool y.cl, .int .i64 y.lim, .int .i64 y.us] 32)) from (Below.refl _ _).alloc (Nat.le_refl _) _)
        have HX1 := Lib.hid (blk_keep (blk_keep HX.out HB.out) HAL.out)
        have HPV2 := Lib.hid (show 0 < k → (wr.alloc (.cells #[.string y.nm, .bool y.cl, .int .i64 y.lim, .int .i64 y.us] 32)).cell? ⟨b, off + (k - 1) * 4, none⟩ = some (.string z.nm) from fun h => by
          obtain ⟨b', off', e, q⟩ := HPREV.out h
          cases e
          exact keep q HAL.out)
        have HCN := Lib.hid (fun wx bb (h : nm y.nm = bb) => rname_q y.nm wx bb hyn h)
        go_upto_region 7 with fail
        generalize hwz : wr.alloc _ = wz at HBOX HAL HX1 HPV2 ⊢
        clear hwz x1 x4 q0 q1 q2 q3 HPREV
        obtain ⟨XA, hXA⟩ : ∃ X, X = wr.heap.size := ⟨_, rfl⟩
        rw [← hXA] at HBOX ⊢
        clear hXA
        have x1 := cell_of HX1.out 1 _ rfl
        have x4 := cell_of HX1.out 4 _ rfl
        have y0 := cell_of HBOX.out 0 _ rfl
        have y1 := cell_of HBOX.out 1 _ rfl
        have y2 := cell_of HBOX.out 2 _ rfl
        go_cut [77] from 43 to 76 (fun q wf => ∃ R : Bool, q = .bool R ∧ Hid (R = (!nm y.nm || !O || (y.cl && false) || !mon y.lim)) ∧ Hid (Below wz.heap.size wz wf))
        case first =>
          have hk0' : ∀ n : Nat, n ≠ 0 → True := fun _ _ => trivial
          clear hk0'
          rcases Kb.hb (nm y.nm) with h1 | h1
          case inr =>
            go_big_quiet ((go_at_call 90; exact Calls.quiet_of_same (HCN.out _ _ h1)))
            go_wp2
            go_meet
            case rel => exact ⟨_, rfl, Lib.hid (by rw [h1]; rfl), below_drewN (Below.refl _ _) _⟩
          by_cases hk0 : 0 < k
          case pos =>
            have zc := HPV2.out hk0
            have hk1 : (0 : Int) < (k : Int) := by omega
            have hk2 : (1 : Int) ≤ (k : Int) := by omega
            have hk3 : (0 : Int) ≤ (k : Int) - 1 := by omega
            have hk4 : (k : Int) - 1 < (L.length : Int) := by omega
            have hk5 : IntKind.i64.wrap ((k : Int) - 1) = (k : Int) - 1 := IntWalk.i64_in _ (by omega)
            have hk6 : ((k : Int) - 1).toNat = k - 1 := by omega
            have hkd : decide (0 < k) = true := decide_eq_true hk0
            have hk7 : (k : Int) ≤ (L.length : Int) := by omega
            have hO : O = lt z.nm y.nm := by rw [HOR.out, decide_eq_false (by omega)]; rfl
            have HO := Lib.hid hO
            obtain ⟨s, hs⟩ : ∃ s, s = lt z.nm y.nm := ⟨_, rfl⟩
            have hs1 : Op.bytesLess z.nm.toList y.nm.toList = s := hs.symm
            have HS := Lib.hid hs
            clear hO hs
            cases s
            case false =>
              go_big_quiet ((go_at_call 90; exact Calls.quiet_of_same (HCN.out _ _ h1)))
              go_wp2
              go_meet
              case rel => exact ⟨_, rfl, Lib.hid (by rw [HO.out, ← HS.out, h1]; simp), below_drewN (Below.refl _ _) _⟩
            case true =>
              have HOT := Lib.hid (show O = true by rw [HO.out, ← HS.out])
              obtain ⟨cl, hcl⟩ : ∃ b, b = y.cl := ⟨_, rfl⟩
              rw [← hcl] at y1
              have HCL := Lib.hid hcl
              clear hcl
              cases cl
              case false =>
                rcases Kb.hb (mon y.lim) with h4 | h4
                all_goals
                  go_big_quiet ((first | (go_at_call 90; exact Calls.quiet_of_same (HCN.out _ _ h1)) | (go_at_call 87; exact Calls.quiet_of_same (rmoney_q _ _ _ h4))))
                  go_wp2
                  go_meet
                  case rel => exact ⟨_, rfl, Lib.hid (by rw [h1, HOT.out, ← HCL.out, h4]; rfl), below_drewN (Below.refl _ _) _⟩
              case true =>
                rcases Kb.hb (mon y.lim) with h4 | h4
                all_goals
                  go_big_quiet ((first | (go_at_call 90; exact Calls.quiet_of_same (HCN.out _ _ h1)) | (go_at_call 87; exact Calls.quiet_of_same (rmoney_q _ _ _ h4))))
                  go_wp2
                  go_meet
                  case rel => exact ⟨_, rfl, Lib.hid (by rw [h1, HOT.out, ← HCL.out, h4]; rfl), below_drewN (Below.refl _ _) _⟩
          case neg =>
            have hkd : decide (0 < k) = false := decide_eq_false hk0
            have hkn : ¬ (0 : Int) < (k : Int) := by omega
            have HOT := Lib.hid (show O = true by rw [HOR.out, decide_eq_true (by omega)]; rfl)
            obtain ⟨cl, hcl⟩ : ∃ b, b = y.cl := ⟨_, rfl⟩
            rw [← hcl] at y1
            have HCL := Lib.hid hcl
            clear hcl
            cases cl
            case false =>
              rcases Kb.hb (mon y.lim) with h4 | h4
              all_goals
                go_big_quiet ((first | (go_at_call 90; exact Calls.quiet_of_same (HCN.out _ _ h1)) | (go_at_call 87; exact Calls.quiet_of_same (rmoney_q _ _ _ h4))))
                go_wp2
                go_meet
                case rel => exact ⟨_, rfl, Lib.hid (by rw [h1, HOT.out, ← HCL.out, h4]; rfl), below_drewN (Below.refl _ _) _⟩
            case true =>
              rcases Kb.hb (mon y.lim) with h4 | h4
              all_goals
                go_big_quiet ((first | (go_at_call 90; exact Calls.quiet_of_same (HCN.out _ _ h1)) | (go_at_call 87; exact Calls.quiet_of_same (rmoney_q _ _ _ h4))))
                go_wp2
                go_meet
                case rel => exact ⟨_, rfl, Lib.hid (by rw [h1, HOT.out, ← HCL.out, h4]; rfl), below_drewN (Below.refl _ _) _⟩
        case rest =>
          obtain ⟨R, rfl, HRR, HBZ⟩ := hcut
          cases R
          case true =>
            have HVF := Lib.hid (show V = false by
              have e := HRR.out
              cases O
              · exact HBAD2.out rfl
              · refine HBAD1.out ?_
                rw [HOA.out, r2]
                revert e
                cases nm y.nm <;> cases y.cl <;> cases mon y.lim <;> simp)
            go_wp2_with fail
            go_ret
            exact ⟨ret_bool HVF.out.symm, bt hbo (bt HB.out (bt HAL.out HBZ.out (Nat.le_refl _)) (Nat.le_refl _)) (Nat.le_refl _)⟩
          case false =>
            have HOK := Lib.hid (show O = true ∧ nm y.nm = true ∧ (y.cl && false) = false ∧ mon y.lim = true by
              have e := HRR.out
              revert e
              cases O <;> cases nm y.nm <;> cases y.cl <;> cases mon y.lim <;> simp)
            have HK2 := Lib.hid (show K = (!decide (y.us < -y.lim) && !decide (y.lim < y.us)) by rw [HOA.out, r2, HOK.out.2.1, HOK.out.2.2.1, HOK.out.2.2.2]; rfl)
            have hmy : 0 ≤ y.lim ∧ y.lim ≤ 1125899906842624 := by
              have := HOK.out.2.2.2
              unfold mon at this
              simpa using this
            have c3 : IntKind.i64.wrap (-y.lim) = -y.lim := IntWalk.i64_in _ (by omega)
            have z2 := cell_of (blk_keep HBOX.out HBZ.out) 2 _ rfl
            have z3 := cell_of (blk_keep HBOX.out HBZ.out) 3 _ rfl
            clear x1 x4 y0 y1 y2
            by_cases u1 : y.us < -y.lim
            · have HVF := Lib.hid (HBAD1.out (by rw [HK2.out, decide_eq_true u1]; rfl))
              clear hmy
              go_wp2_with fail
              go_ret
              exact ⟨ret_bool HVF.out.symm, bt hbo (bt HB.out (bt HAL.out HBZ.out (Nat.le_refl _)) (Nat.le_refl _)) (Nat.le_refl _)⟩
            · by_cases u2 : y.lim < y.us
              · have HVF := Lib.hid (HBAD1.out (by rw [HK2.out, decide_eq_true u2]; simp))
                clear hmy
                go_wp2_with fail
                go_ret
                exact ⟨ret_bool HVF.out.symm, bt hbo (bt HB.out (bt HAL.out HBZ.out (Nat.le_refl _)) (Nat.le_refl _)) (Nat.le_refl _)⟩
              · have HG2 := Lib.hid (HGS.out (by rw [HK2.out, decide_eq_false u1, decide_eq_false u2]; rfl) HOK.out.1)
                clear hmy
                go_wp2_with fail
                go_roundw
                case rel => exact ⟨k + 1, by omega, by go_num, HG2, bt HB.out (bt HAL.out HBZ.out (Nat.le_refl _)) (Nat.le_refl _)⟩
                case measure => simp [intOf]; omega
      · obtain rfl : k = L.length := by omega
        have k1 : ¬ (L.length : Int) < L.length := by omega
        have HOKA := Lib.hid (show ∀ y ∈ L, okA ro y = true from fun y hy => by
          obtain ⟨i, hi, rfl⟩ := List.mem_iff_getElem.1 hy
          have := (HG.out i hi).1
          unfold ga at this
          rw [List.getD_eq_getElem?_getD, List.getElem?_eq_getElem hi] at this
          exact this)
        have HV3 := Lib.hid (show V = decide (ex L ≤ lim) by
          rw [HV2.out, ord_all (fun i hi => (HG.out i hi).2), List.all_eq_true.2 HOKA.out]
          rfl)
        have HUS := Lib.hid (fun wx (h : Below wr.heap.size wr wx) => rused_any (⟨N, ro, su, lim, L⟩, (a, c)) wx hn ((HA.out.below hbw).below h) (fun y hy => by
          have := okA_bound (HOKA.out y hy)
          omega))
        have HXW := Lib.hid (blk_keep HX.out HB.out)
        have HK := Lib.hid (show ∀ wx, Below wr.heap.size wr wx → wx.cell? ⟨w.heap.size, 0, none⟩ = some (.string N) ∧ wx.cell? ⟨w.heap.size, 1, none⟩ = some (.int .u8 ro) ∧ wx.cell? ⟨w.heap.size, 2, none⟩ = some (.bool su) ∧ wx.cell? ⟨w.heap.size, 3, none⟩ = some (.int .i64 lim) ∧ wx.cell? ⟨w.heap.size, 4, none⟩ = some (.slice a L.length c) from fun wx h => ⟨cell_of (blk_keep HXW.out h) 0 _ rfl, cell_of (blk_keep HXW.out h) 1 _ rfl, cell_of (blk_keep HXW.out h) 2 _ rfl, cell_of (blk_keep HXW.out h) 3 _ rfl, cell_of (blk_keep HXW.out h) 4 _ rfl⟩)
        have j0 : Below wr.heap.size wr wr := Below.refl _ _
        have jd := j0.drew
        clear x1 HG HV2
        go_wp2_with fail
        go_region_held3 (fun wx => wx.cell? ⟨w.heap.size, 0, none⟩ = some (.string N) ∧ wx.cell? ⟨w.heap.size, 1, none⟩ = some (.int .u8 ro) ∧ wx.cell? ⟨w.heap.size, 2, none⟩ = some (.bool su) ∧ wx.cell? ⟨w.heap.size, 3, none⟩ = some (.int .i64 lim) ∧ wx.cell? ⟨w.heap.size, 4, none⟩ = some (.slice a L.length c))
          (first | with_reducible exact HK.out _ j3 | with_reducible exact HK.out _ jd)
          ((go_at_call 73; refine (HUS.out wr.drew jd).mono ?_; rintro e w5 ⟨rfl, hb5⟩; have j3 : Below wr.heap.size wr w5 := bt jd hb5 (Nat.le_refl _)))
        go_wp2
        go_ret
        exact ⟨ret_bool HV3.out.symm, bt hbw j3 (Nat.le_refl _)⟩
  case true =>
    go_enter Try.func74, Try.ntmps74
    go_wp2_with fail
    refine (HP.out _).mono ?_
    rintro e w1 ⟨rfl, rfl⟩
    go_wp2_with fail
    refine (HMO.out _).mono ?_
    rintro e w1 ⟨rfl, rfl⟩
    clear HMO HP
    generalize hwo : w.alloc _ = wo at hbo HX ⊢
    clear hwo
    have x4 := cell_of HX.out 4 _ rfl
    go_wp2_with fail
    clear x4
    go_loopw [3, 4] (fun i _ wr => ∃ k : Nat, k ≤ L.length ∧ i = .int .i64 k ∧ Hid (∀ i, i < k → okA ro (ga L i) = true ∧ ordB L i = true) ∧ Hid (Below wo.heap.size wo wr)) (fun i _ _ => L.length - (intOf i).toNat)
    case atStart => exact ⟨0, by omega, rfl, fun i hi => by omega, Below.refl _ _⟩
    case round =>
      obtain ⟨k, hk, rfl, HG, HB⟩ := hrel
      have hbw := bt hbo HB.out (Nat.le_refl _)
      have x1 := cell_of (blk_keep HX.out HB.out) 1 _ rfl
      have x4 := cell_of (blk_keep HX.out HB.out) 4 _ rfl
      by_cases hlt : k < L.length
      · have k0 : (0 : Int) ≤ k := by omega
        have k1 : (k : Int) < L.length := by omega
        have HPREV := Lib.hid (show 0 < k → ∃ b off, a = some ⟨b, off, none⟩ ∧ wr.cell? ⟨b, off + (k - 1) * 4, none⟩ = some (.string (ga L (k - 1)).nm) from fun h => by
          obtain ⟨b, off, ha, q, _⟩ := at_a (HA.out.below hbw) (k - 1) (by omega)
          exact ⟨b, off, ha, q⟩)
        obtain ⟨b, off, rfl, q0, q1, q2, q3⟩ := at_a (HA.out.below hbw) k hlt
        have hzk := HZA.out _ (ga_mem L k hlt)
        have HOR := Lib.hid (show ordB L k = (decide (k = 0) || lt (ga L (k - 1)).nm (ga L k).nm) from rfl)
        have HOA := Lib.hid (okA_of ro (ga L k))
        have HBAD1 := Lib.hid (show okA ro (ga L k) = false → V = false from fun h => by rw [HV2.out, not_all_okA hlt h]; simp)
        have HBAD2 := Lib.hid (show ordB L k = false → V = false from fun h => by rw [HV2.out, ord_bad hlt h]; simp)
        have HGS := Lib.hid (show okA ro (ga L k) = true → ordB L k = true → ∀ i, i < k + 1 → okA ro (ga L i) = true ∧ ordB L i = true from fun h1 h2 i hi => by
          rcases Nat.eq_or_lt_of_le (show i ≤ k by omega) with e | e
          · rw [e]; exact ⟨h1, h2⟩
          · exact HG.out i e)
        obtain ⟨O, hO⟩ : ∃ O, O = ordB L k := ⟨_, rfl⟩
        obtain ⟨K, hK⟩ : ∃ K, K = okA ro (ga L k) := ⟨_, rfl⟩
        rw [← hO] at HOR HBAD2 HGS
        rw [← hK] at HOA HBAD1 HGS
        generalize ga L k = y at q0 q1 q2 q3 hzk HOR HOA
        generalize ga L (k - 1) = z at HPREV HOR
        clear hO hK HG
        have hyn := hzk.nm
        have HYL := Lib.hid hzk.lim
        clear hzk
        have HBOX := Lib.hid (blk_new wr (.cells #[.string y.nm, .bool y.cl, .int .i64 y.lim, .int .i64 y.us] 32))
        have HAL := Lib.hid (show Below wr.heap.size wr (wr.alloc (.cells #[.string y.nm, .bool y.cl, .int .i64 y.lim, .int .i64 y.us] 32)) from (Below.refl _ _).alloc (Nat.le_refl _) _)
        have HX1 := Lib.hid (blk_keep (blk_keep HX.out HB.out) HAL.out)
        have HPV2 := Lib.hid (show 0 < k → (wr.alloc (.cells #[.string y.nm, .bool y.cl, .int .i64 y.lim, .int .i64 y.us] 32)).cell? ⟨b, off + (k - 1) * 4, none⟩ = some (.string z.nm) from fun h => by
          obtain ⟨b', off', e, q⟩ := HPREV.out h
          cases e
          exact keep q HAL.out)
        have HCN := Lib.hid (fun wx bb (h : nm y.nm = bb) => rname_q y.nm wx bb hyn h)
        go_upto_region 7 with fail
        generalize hwz : wr.alloc _ = wz at HBOX HAL HX1 HPV2 ⊢
        clear hwz x1 x4 q0 q1 q2 q3 HPREV
        obtain ⟨XA, hXA⟩ : ∃ X, X = wr.heap.size := ⟨_, rfl⟩
        rw [← hXA] at HBOX ⊢
        clear hXA
        have x1 := cell_of HX1.out 1 _ rfl
        have x4 := cell_of HX1.out 4 _ rfl
        have y0 := cell_of HBOX.out 0 _ rfl
        have y1 := cell_of HBOX.out 1 _ rfl
        have y2 := cell_of HBOX.out 2 _ rfl
        go_cut [77] from 43 to 76 (fun q wf => ∃ R : Bool, q = .bool R ∧ Hid (R = (!nm y.nm || !O || (y.cl && true) || !mon y.lim)) ∧ Hid (Below wz.heap.size wz wf))
        case first =>
          have hk0' : ∀ n : Nat, n ≠ 0 → True := fun _ _ => trivial
          clear hk0'
          rcases Kb.hb (nm y.nm) with h1 | h1
          case inr =>
            go_big_quiet ((go_at_call 90; exact Calls.quiet_of_same (HCN.out _ _ h1)))
            go_wp2
            go_meet
            case rel => exact ⟨_, rfl, Lib.hid (by rw [h1]; rfl), below_drewN (Below.refl _ _) _⟩
          by_cases hk0 : 0 < k
          case pos =>
            have zc := HPV2.out hk0
            have hk1 : (0 : Int) < (k : Int) := by omega
            have hk2 : (1 : Int) ≤ (k : Int) := by omega
            have hk3 : (0 : Int) ≤ (k : Int) - 1 := by omega
            have hk4 : (k : Int) - 1 < (L.length : Int) := by omega
            have hk5 : IntKind.i64.wrap ((k : Int) - 1) = (k : Int) - 1 := IntWalk.i64_in _ (by omega)
            have hk6 : ((k : Int) - 1).toNat = k - 1 := by omega
            have hkd : decide (0 < k) = true := decide_eq_true hk0
            have hk7 : (k : Int) ≤ (L.length : Int) := by omega
            have hO : O = lt z.nm y.nm := by rw [HOR.out, decide_eq_false (by omega)]; rfl
            have HO := Lib.hid hO
            obtain ⟨s, hs⟩ : ∃ s, s = lt z.nm y.nm := ⟨_, rfl⟩
            have hs1 : Op.bytesLess z.nm.toList y.nm.toList = s := hs.symm
            have HS := Lib.hid hs
            clear hO hs
            cases s
            case false =>
              go_big_quiet ((go_at_call 90; exact Calls.quiet_of_same (HCN.out _ _ h1)))
              go_wp2
              go_meet
              case rel => exact ⟨_, rfl, Lib.hid (by rw [HO.out, ← HS.out, h1]; simp), below_drewN (Below.refl _ _) _⟩
            case true =>
              have HOT := Lib.hid (show O = true by rw [HO.out, ← HS.out])
              obtain ⟨cl, hcl⟩ : ∃ b, b = y.cl := ⟨_, rfl⟩
              rw [← hcl] at y1
              have HCL := Lib.hid hcl
              clear hcl
              cases cl
              case false =>
                rcases Kb.hb (mon y.lim) with h4 | h4
                all_goals
                  go_big_quiet ((first | (go_at_call 90; exact Calls.quiet_of_same (HCN.out _ _ h1)) | (go_at_call 87; exact Calls.quiet_of_same (rmoney_q _ _ _ h4))))
                  go_wp2
                  go_meet
                  case rel => exact ⟨_, rfl, Lib.hid (by rw [h1, HOT.out, ← HCL.out, h4]; rfl), below_drewN (Below.refl _ _) _⟩
              case true =>
                go_big_quiet ((go_at_call 90; exact Calls.quiet_of_same (HCN.out _ _ h1)))
                go_wp2
                go_meet
                case rel => exact ⟨_, rfl, Lib.hid (by rw [h1, HOT.out, ← HCL.out]; rfl), below_drewN (Below.refl _ _) _⟩
          case neg =>
            have hkd : decide (0 < k) = false := decide_eq_false hk0
            have hkn : ¬ (0 : Int) < (k : Int) := by omega
            have HOT := Lib.hid (show O = true by rw [HOR.out, decide_eq_true (by omega)]; rfl)
            obtain ⟨cl, hcl⟩ : ∃ b, b = y.cl := ⟨_, rfl⟩
            rw [← hcl] at y1
            have HCL := Lib.hid hcl
            clear hcl
            cases cl
            case false =>
              rcases Kb.hb (mon y.lim) with h4 | h4
              all_goals
                go_big_quiet ((first | (go_at_call 90; exact Calls.quiet_of_same (HCN.out _ _ h1)) | (go_at_call 87; exact Calls.quiet_of_same (rmoney_q _ _ _ h4))))
                go_wp2
                go_meet
                case rel => exact ⟨_, rfl, Lib.hid (by rw [h1, HOT.out, ← HCL.out, h4]; rfl), below_drewN (Below.refl _ _) _⟩
            case true =>
              go_big_quiet ((go_at_call 90; exact Calls.quiet_of_same (HCN.out _ _ h1)))
              go_wp2
              go_meet
              case rel => exact ⟨_, rfl, Lib.hid (by rw [h1, HOT.out, ← HCL.out]; rfl), below_drewN (Below.refl _ _) _⟩
        case rest =>
          obtain ⟨R, rfl, HRR, HBZ⟩ := hcut
          cases R
          case true =>
            have HVF := Lib.hid (show V = false by
              have e := HRR.out
              cases O
              · exact HBAD2.out rfl
              · refine HBAD1.out ?_
                rw [HOA.out, r2]
                revert e
                cases nm y.nm <;> cases y.cl <;> cases mon y.lim <;> simp)
            go_wp2_with fail
            go_ret
            exact ⟨ret_bool HVF.out.symm, bt hbo (bt HB.out (bt HAL.out HBZ.out (Nat.le_refl _)) (Nat.le_refl _)) (Nat.le_refl _)⟩
          case false =>
            have HOK := Lib.hid (show O = true ∧ nm y.nm = true ∧ (y.cl && true) = false ∧ mon y.lim = true by
              have e := HRR.out
              revert e
              cases O <;> cases nm y.nm <;> cases y.cl <;> cases mon y.lim <;> simp)
            have HK2 := Lib.hid (show K = (!decide (y.us < -y.lim) && !decide (y.lim < y.us)) by rw [HOA.out, r2, HOK.out.2.1, HOK.out.2.2.1, HOK.out.2.2.2]; rfl)
            have hmy : 0 ≤ y.lim ∧ y.lim ≤ 1125899906842624 := by
              have := HOK.out.2.2.2
              unfold mon at this
              simpa using this
            have c3 : IntKind.i64.wrap (-y.lim) = -y.lim := IntWalk.i64_in _ (by omega)
            have z2 := cell_of (blk_keep HBOX.out HBZ.out) 2 _ rfl
            have z3 := cell_of (blk_keep HBOX.out HBZ.out) 3 _ rfl
            clear x1 x4 y0 y1 y2
            by_cases u1 : y.us < -y.lim
            · have HVF := Lib.hid (HBAD1.out (by rw [HK2.out, decide_eq_true u1]; rfl))
              clear hmy
              go_wp2_with fail
              go_ret
              exact ⟨ret_bool HVF.out.symm, bt hbo (bt HB.out (bt HAL.out HBZ.out (Nat.le_refl _)) (Nat.le_refl _)) (Nat.le_refl _)⟩
            · by_cases u2 : y.lim < y.us
              · have HVF := Lib.hid (HBAD1.out (by rw [HK2.out, decide_eq_true u2]; simp))
                clear hmy
                go_wp2_with fail
                go_ret
                exact ⟨ret_bool HVF.out.symm, bt hbo (bt HB.out (bt HAL.out HBZ.out (Nat.le_refl _)) (Nat.le_refl _)) (Nat.le_refl _)⟩
              · have HG2 := Lib.hid (HGS.out (by rw [HK2.out, decide_eq_false u1, decide_eq_false u2]; rfl) HOK.out.1)
                clear hmy
                go_wp2_with fail
                go_roundw
                case rel => exact ⟨k + 1, by omega, by go_num, HG2, bt HB.out (bt HAL.out HBZ.out (Nat.le_refl _)) (Nat.le_refl _)⟩
                case measure => simp [intOf]; omega
      · obtain rfl : k = L.length := by omega
        have k1 : ¬ (L.length : Int) < L.length := by omega
        have HOKA := Lib.hid (show ∀ y ∈ L, okA ro y = true from fun y hy => by
          obtain ⟨i, hi, rfl⟩ := List.mem_iff_getElem.1 hy
          have := (HG.out i hi).1
          unfold ga at this
          rw [List.getD_eq_getElem?_getD, List.getElem?_eq_getElem hi] at this
          exact this)
        have HV3 := Lib.hid (show V = decide (ex L ≤ lim) by
          rw [HV2.out, ord_all (fun i hi => (HG.out i hi).2), List.all_eq_true.2 HOKA.out]
          rfl)
        have HUS := Lib.hid (fun wx (h : Below wr.heap.size wr wx) => rused_any (⟨N, ro, su, lim, L⟩, (a, c)) wx hn ((HA.out.below hbw).below h) (fun y hy => by
          have := okA_bound (HOKA.out y hy)
          omega))
        have HXW := Lib.hid (blk_keep HX.out HB.out)
        have HK := Lib.hid (show ∀ wx, Below wr.heap.size wr wx → wx.cell? ⟨w.heap.size, 0, none⟩ = some (.string N) ∧ wx.cell? ⟨w.heap.size, 1, none⟩ = some (.int .u8 ro) ∧ wx.cell? ⟨w.heap.size, 2, none⟩ = some (.bool su) ∧ wx.cell? ⟨w.heap.size, 3, none⟩ = some (.int .i64 lim) ∧ wx.cell? ⟨w.heap.size, 4, none⟩ = some (.slice a L.length c) from fun wx h => ⟨cell_of (blk_keep HXW.out h) 0 _ rfl, cell_of (blk_keep HXW.out h) 1 _ rfl, cell_of (blk_keep HXW.out h) 2 _ rfl, cell_of (blk_keep HXW.out h) 3 _ rfl, cell_of (blk_keep HXW.out h) 4 _ rfl⟩)
        have j0 : Below wr.heap.size wr wr := Below.refl _ _
        have jd := j0.drew
        clear x1 HG HV2
        go_wp2_with fail
        go_region_held3 (fun wx => wx.cell? ⟨w.heap.size, 0, none⟩ = some (.string N) ∧ wx.cell? ⟨w.heap.size, 1, none⟩ = some (.int .u8 ro) ∧ wx.cell? ⟨w.heap.size, 2, none⟩ = some (.bool su) ∧ wx.cell? ⟨w.heap.size, 3, none⟩ = some (.int .i64 lim) ∧ wx.cell? ⟨w.heap.size, 4, none⟩ = some (.slice a L.length c))
          (first | with_reducible exact HK.out _ j3 | with_reducible exact HK.out _ jd)
          ((go_at_call 73; refine (HUS.out wr.drew jd).mono ?_; rintro e w5 ⟨rfl, hb5⟩; have j3 : Below wr.heap.size wr w5 := bt jd hb5 (Nat.le_refl _)))
        go_wp2
        go_ret
        exact ⟨ret_bool HV3.out.symm, bt hbw j3 (Nat.le_refl _)⟩
end Go.Proofs.Ytoemjpfoddeinaa.Mb
