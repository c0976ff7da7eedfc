/-
  Compress: the walk of the law CompressFlat.
-/
import Derived.Test.YtpphiohppgphnaaCvN
import Derived.Test.YtpphiohppgphnaaCvL
namespace Go.Proofs.Ytpphiohppgphnaa.Cs
open Go.RowKit Go.Proofs.Ytpphiohppgphnaa Go.Proofs.Ytpphiohppgphnaa.Ls Go.Proofs.Ytpphiohppgphnaa.Kb Go.Proofs.Ytpphiohppgphnaa.Cz
open Go.Proofs.Ytpphiohppgphnaa.Nm hiding ret_bool ret_int hb'

theorem vld_of {l : List Tr} (h : chkE l = 0) : vldB l = true := by
  rcases chk_cases l with ⟨_, h1, _⟩ | h1 | h1
  · exact h1
  · rw [h] at h1; cases h1
  · rw [h] at h1; cases h1
theorem szT_vld {l : List Tr} (hv : vldB l = true) (hZ : SzT l) {out : List Tr} (h : Cmp l out) : SzT out := szT_of fun x hx => by
  obtain ⟨y, hy, hk⟩ := emb_key (cmp_emb h hv) x hx
  obtain ⟨i, hi, rfl⟩ := mem_gt hy
  rw [hk.1, hk.2.1, hk.2.2]
  exact hZ i
theorem net_same {l out : List Tr} (hc : chkE l = 0) (h : Cmp l out) : chkE out = 0 ∧ ∀ p c, netF out p c = netF l p c ∧ netE out p c = netE l p c := by
  have hv := vld_of hc
  obtain ⟨h1, h2, _, h4, _⟩ := cmp_facts h hv
  have hl : l.length ≤ 200 := by
    rcases chk_cases l with ⟨_, _, h⟩ | h | h
    · exact h
    · rw [hc] at h; cases h
    · rw [hc] at h; cases h
  have hco := chk_of h1 (by omega)
  refine ⟨hco, fun p c => ?_⟩
  rw [(netF_sum hco p c).1, (netF_sum hc p c).1, (netF_sum hco p c).2.1, (netF_sum hc p c).2.1, h4 p c]
  exact ⟨rfl, rfl⟩
theorem netE_zero {l : List Tr} (hc : chkE l = 0) {p c : ByteArray} (hp : nm p = true) (ht : nm c = true) : netE l p c = 0 := by
  unfold netE
  rw [if_pos hc, hp, ht]
  rfl
set_option maxRecDepth 100000 in
set_option maxHeartbeats 8000000 in
theorem flat_walk {W : World} (a : Option Addr) (c : Nat) (l : List Tr) (hZ : SzT l ∧ l.length ≤ maxLen) (hA : AtL W 4 trc a l) (p : ByteArray) (hp : p.size ≤ maxLen) (t : ByteArray) (ht : t.size ≤ maxLen) :
    Calls Try.prog 6 #[.slice a l.length c, .string p, .string t] W fun e W' => e = .returned (.bool true) ∧ Below W.heap.size W W' := by
  obtain ⟨hZ, hml⟩ := hZ
  have HG := Lib.hid (fun (v : World) (hv : Below W.heap.size W v) => great_any a c l v hml (hA.below hv))
  have HA := Lib.hid hA
  clear hA
  go_enter Try.func6, Try.ntmps6
  go_wp2_with fail
  refine (alive_any W).mono ?_
  rintro e w1 ⟨rfl, hb1⟩
  have B1 := Lib.hid hb1
  clear hb1
  rcases hb (greatT l) with hg | hg
  · go_wp2_with fail
    refine (HG.out w1 B1.out).mono ?_
    rintro e w2 ⟨rfl, hw2⟩
    have B2 := Lib.hid (show Below W.heap.size W w2 by rw [hw2]; exact B1.out)
    clear hw2 B1 HG
    rw [hg]
    go_wp2
    go_ret
    exact ⟨rfl, B2.out⟩
  · have hgn := great_no hg
    have hl210 := hgn.2.1
    by_cases h1 : (1000 : Int) < p.size
    · go_wp2_with fail
      refine (HG.out w1 B1.out).mono ?_
      rintro e w2 ⟨rfl, hw2⟩
      have B2 := Lib.hid (show Below W.heap.size W w2 by rw [hw2]; exact B1.out)
      clear hw2 B1 HG hgn
      rw [hg]
      go_wp2
      go_ret
      exact ⟨rfl, B2.out⟩
    · by_cases h2 : (1000 : Int) < t.size
      · go_wp2_with fail
        refine (HG.out w1 B1.out).mono ?_
        rintro e w2 ⟨rfl, hw2⟩
        have B2 := Lib.hid (show Below W.heap.size W w2 by rw [hw2]; exact B1.out)
        clear hw2 B1 HG hgn
        rw [hg]
        go_wp2
        go_ret
        exact ⟨rfl, B2.out⟩
      · go_wp2_with fail
        refine (HG.out w1 B1.out).mono ?_
        rintro e w2 ⟨rfl, hw2⟩
        have B2 := Lib.hid (show Below W.heap.size W w2 by rw [hw2]; exact B1.out)
        clear hw2 B1 HG hgn
        rw [hg]
        clear hg
        obtain ⟨out, e0, hr⟩ := comR_exists l
        have HCM := Lib.hid (compress_any a c l out e0 w2 (by omega) hZ (HA.out.below B2.out) hr)
        go_wp2_with fail
        refine HCM.out.mono ?_
        rintro e w3 ⟨oa, oc, rfl, ho3, hb3⟩
        have B3 := Lib.hid (bt B2.out hb3 (Nat.le_refl _))
        have HO3 := Lib.hid (ho3.sl trc_len).1
        have HCH := Lib.hid (check_any a c l w3 (by omega) hZ (HA.out.below B3.out))
        clear ho3 hb3 B2 HCM
        cases hr with
        | bad h =>
          have h1 : chkE l = 4 ∨ chkE l = 8 := by
            rcases chk_cases l with ⟨h0, _⟩ | h1 | h1
            · exact absurd h0 h
            · exact .inl h1
            · exact .inr h1
          clear h HO3
          rcases h1 with h1 | h1
          all_goals
            rw [h1] at HCH ⊢
            clear h1
            go_wp2_with fail
            refine HCH.out.mono ?_
            rintro e w4 ⟨rfl, hb4⟩
            have B4 := Lib.hid (bt B3.out hb4 (Nat.le_refl _))
            clear hb4 HCH B3
            go_wp2
            go_ret
            exact ⟨rfl, B4.out⟩
        | ok h out k =>
          have hv := vld_of h
          have hlo := (cmp_facts k hv).2.1
          have HSM := Lib.hid (net_same h k)
          have HZO := Lib.hid (szT_vld hv hZ k)
          have HNL := Lib.hid (fun (v : World) (hv : Below w3.heap.size w3 v) (p t : ByteArray) (hp : p.size ≤ maxLen) (ht : t.size ≤ maxLen) => net_any a c l p t v (by omega) hZ hp ht ((HA.out.below B3.out).below hv))
          have HNO := Lib.hid (show ∀ (v : World), Below w3.heap.size w3 v → ∀ (p t : ByteArray), p.size ≤ maxLen → t.size ≤ maxLen → Calls Try.prog 14 #[.slice oa out.length oc, .string p, .string t] v fun e w' => e = .returned (.tuple #[.int .i64 (netF l p t), .int .i64 (netE l p t)]) ∧ Below v.heap.size v w' from fun v hv p t hp ht => by
            have := net_any oa oc out p t v (by omega) HZO.out hp ht (HO3.out.below hv)
            rw [(HSM.out.2 p t).1, (HSM.out.2 p t).2] at this
            exact this)
          have HV := Lib.hid (fun (K : Nat) (hK : K < l.length) => okT_at hv K hK)
          have HE := Lib.hid (fun (p c : ByteArray) (hp : nm p = true) (hc : nm c = true) => netE_zero (l := l) h hp hc)
          clear h k hv HCH HZO HSM hlo
          go_wp2_with fail
          refine (HNL.out w3 (Below.refl _ _) p t hp ht).mono ?_
          rintro e w4 ⟨rfl, hb4⟩
          have B4 := Lib.hid hb4
          clear hb4
          go_wp2_with fail
          refine (HNO.out w4 B4.out p t hp ht).mono ?_
          rintro e w5 ⟨rfl, hb5⟩
          have B5 := Lib.hid (bt B4.out hb5 (Nat.le_refl _))
          clear hb5 B4
          generalize netF l p t = vN
          generalize netE l p t = eN
          go_wp2_with fail
          go_loopw [14, 15, 16, 17, 18, 19, 20, 21, 22] (fun i _ _ _ _ _ _ _ _ wr => ∃ K : Nat, K ≤ l.length ∧ i = .int .i64 K ∧ Hid (Below w3.heap.size w3 wr)) (fun i _ _ _ _ _ _ _ _ _ => l.length - (intOf i).toNat)
          case atStart => exact ⟨0, by omega, rfl, B5⟩
          case round =>
            clear B5
            obtain ⟨K, hK, rfl, HB⟩ := hrel
            rcases Nat.lt_or_ge K l.length with hkl | hge
            · have hki : (K : Int) < l.length := by omega
              have hk0 : (0 : Int) ≤ (K : Int) := by omega
              obtain ⟨lb, lo, hla, p0, p1, p2, _⟩ := at_tr ((HA.out.below B3.out).below HB.out) K hkl
              subst hla
              have HKV := Lib.hid (HV.out K hkl)
              have HNLf := Lib.hid (show ∀ (v : World), Below w3.heap.size w3 v → _ from fun v hv => HNL.out v hv (gt l K).fr (gt l K).con (hZ K).1 (hZ K).2.2)
              have HNOf := Lib.hid (show ∀ (v : World), Below w3.heap.size w3 v → _ from fun v hv => HNO.out v hv (gt l K).fr (gt l K).con (hZ K).1 (hZ K).2.2)
              have HNLt := Lib.hid (show ∀ (v : World), Below w3.heap.size w3 v → _ from fun v hv => HNL.out v hv (gt l K).to_ (gt l K).con (hZ K).2.1 (hZ K).2.2)
              have HNOt := Lib.hid (show ∀ (v : World), Below w3.heap.size w3 v → _ from fun v hv => HNO.out v hv (gt l K).to_ (gt l K).con (hZ K).2.1 (hZ K).2.2)
              rw [HE.out _ _ HKV.out.1 HKV.out.2.2.1] at HNLf HNOf
              rw [HE.out _ _ HKV.out.2.1 HKV.out.2.2.1] at HNLt HNOt
              generalize netF l (gt l K).fr (gt l K).con = vF at HNLf HNOf
              generalize netF l (gt l K).to_ (gt l K).con = vT at HNLt HNOt
              go_wp2_with fail
              have HBX := Lib.hid HB.out
              clear HB
              have HBS := Lib.hid (show ∀ wx, Below wr.heap.size wr wx → wx.cell? ⟨lb, lo + K * 4, none⟩ = some (.string (gt l K).fr) ∧ wx.cell? ⟨lb, lo + K * 4 + 2, none⟩ = some (.string (gt l K).con) from fun wx hx => ⟨keep p0 hx, keep p2 hx⟩)
              have k0 : Below wr.heap.size wr wr := Below.refl _ _
              have kd := k0.drew
              go_upto_region 14 with fail
              go_cut [15, 16] from 88 to 102 (fun u v wn => u = .int .i64 vF ∧ v = .int .i64 0 ∧ Hid (Below wr.heap.size wr wn))
              case first =>
                go_region_held3 (fun w' => w'.cell? ⟨lb, lo + K * 4, none⟩ = some (.string (gt l K).fr) ∧ w'.cell? ⟨lb, lo + K * 4 + 2, none⟩ = some (.string (gt l K).con))
                  (first | with_reducible exact HBS.out _ (by assumption) | with_reducible exact HBS.out _ (Below.drew (by assumption)) | go_keep)
                  ((go_at_call 14; refine (HNLf.out wr.drew (HBX.out.trans (kd.mono HBX.out.size))).mono ?_; rintro e w5 ⟨rfl, hb5⟩; have k5 : Below wr.heap.size wr w5 := bt kd hb5 (Nat.le_refl _)))
                all_goals
                  go_wp2
                  go_meet
                  case rel => exact ⟨rfl, rfl, Lib.hid (by first | exact k5 | exact k5.drew)⟩
              case rest =>
                obtain ⟨hu, hv, HB5⟩ := hcut
                subst hu
                subst hv
                have HBN := Lib.hid (HBX.out.trans (HB5.out.mono HBX.out.size))
                have p0 := keep p0 HB5.out
                have p1 := keep p1 HB5.out
                have p2 := keep p2 HB5.out
                clear HBS k0 kd HBX HB5
                have HBX := Lib.hid HBN.out
                clear HBN
                rename World => x0
                go_wp2_with fail
                have HBS := Lib.hid (show ∀ wx, Below x0.heap.size x0 wx → wx.cell? ⟨lb, lo + K * 4, none⟩ = some (.string (gt l K).fr) ∧ wx.cell? ⟨lb, lo + K * 4 + 2, none⟩ = some (.string (gt l K).con) from fun wx hx => ⟨keep p0 hx, keep p2 hx⟩)
                have k0 : Below x0.heap.size x0 x0 := Below.refl _ _
                have kd := k0.drew
                go_upto_region 15 with fail
                go_cut [17, 18] from 103 to 117 (fun u v wn => u = .int .i64 vF ∧ v = .int .i64 0 ∧ Hid (Below x0.heap.size x0 wn))
                case first =>
                  go_region_held3 (fun w' => w'.cell? ⟨lb, lo + K * 4, none⟩ = some (.string (gt l K).fr) ∧ w'.cell? ⟨lb, lo + K * 4 + 2, none⟩ = some (.string (gt l K).con))
                    (first | with_reducible exact HBS.out _ (by assumption) | with_reducible exact HBS.out _ (Below.drew (by assumption)) | go_keep)
                    ((go_at_call 14; refine (HNOf.out x0.drew (HBX.out.trans (kd.mono HBX.out.size))).mono ?_; rintro e w5 ⟨rfl, hb5⟩; have k5 : Below x0.heap.size x0 w5 := bt kd hb5 (Nat.le_refl _)))
                  all_goals
                    go_wp2
                    go_meet
                    case rel => exact ⟨rfl, rfl, Lib.hid (by first | exact k5 | exact k5.drew)⟩
                case rest =>
                  obtain ⟨hu, hv, HB5⟩ := hcut
                  subst hu
                  subst hv
                  have HBN := Lib.hid (HBX.out.trans (HB5.out.mono HBX.out.size))
                  have p0 := keep p0 HB5.out
                  have p1 := keep p1 HB5.out
                  have p2 := keep p2 HB5.out
                  clear HBS k0 kd HBX HB5
                  have HBX := Lib.hid HBN.out
                  clear HBN
                  rename World => x1
                  go_wp2_with fail
                  have HBS := Lib.hid (show ∀ wx, Below x1.heap.size x1 wx → wx.cell? ⟨lb, lo + K * 4 + 1, none⟩ = some (.string (gt l K).to_) ∧ wx.cell? ⟨lb, lo + K * 4 + 2, none⟩ = some (.string (gt l K).con) from fun wx hx => ⟨keep p1 hx, keep p2 hx⟩)
                  have k0 : Below x1.heap.size x1 x1 := Below.refl _ _
                  have kd := k0.drew
                  go_upto_region 16 with fail
                  go_cut [19, 20] from 118 to 132 (fun u v wn => u = .int .i64 vT ∧ v = .int .i64 0 ∧ Hid (Below x1.heap.size x1 wn))
                  case first =>
                    go_region_held3 (fun w' => w'.cell? ⟨lb, lo + K * 4 + 1, none⟩ = some (.string (gt l K).to_) ∧ w'.cell? ⟨lb, lo + K * 4 + 2, none⟩ = some (.string (gt l K).con))
                      (first | with_reducible exact HBS.out _ (by assumption) | with_reducible exact HBS.out _ (Below.drew (by assumption)) | go_keep)
                      ((go_at_call 14; refine (HNLt.out x1.drew (HBX.out.trans (kd.mono HBX.out.size))).mono ?_; rintro e w5 ⟨rfl, hb5⟩; have k5 : Below x1.heap.size x1 w5 := bt kd hb5 (Nat.le_refl _)))
                    all_goals
                      go_wp2
                      go_meet
                      case rel => exact ⟨rfl, rfl, Lib.hid (by first | exact k5 | exact k5.drew)⟩
                  case rest =>
                    obtain ⟨hu, hv, HB5⟩ := hcut
                    subst hu
                    subst hv
                    have HBN := Lib.hid (HBX.out.trans (HB5.out.mono HBX.out.size))
                    have p0 := keep p0 HB5.out
                    have p1 := keep p1 HB5.out
                    have p2 := keep p2 HB5.out
                    clear HBS k0 kd HBX HB5
                    have HBX := Lib.hid HBN.out
                    clear HBN
                    rename World => x2
                    go_wp2_with fail
                    have HBS := Lib.hid (show ∀ wx, Below x2.heap.size x2 wx → wx.cell? ⟨lb, lo + K * 4 + 1, none⟩ = some (.string (gt l K).to_) ∧ wx.cell? ⟨lb, lo + K * 4 + 2, none⟩ = some (.string (gt l K).con) from fun wx hx => ⟨keep p1 hx, keep p2 hx⟩)
                    have k0 : Below x2.heap.size x2 x2 := Below.refl _ _
                    have kd := k0.drew
                    go_upto_region 17 with fail
                    go_cut [21, 22] from 133 to 147 (fun u v wn => u = .int .i64 vT ∧ v = .int .i64 0 ∧ Hid (Below x2.heap.size x2 wn))
                    case first =>
                      go_region_held3 (fun w' => w'.cell? ⟨lb, lo + K * 4 + 1, none⟩ = some (.string (gt l K).to_) ∧ w'.cell? ⟨lb, lo + K * 4 + 2, none⟩ = some (.string (gt l K).con))
                        (first | with_reducible exact HBS.out _ (by assumption) | with_reducible exact HBS.out _ (Below.drew (by assumption)) | go_keep)
                        ((go_at_call 14; refine (HNOt.out x2.drew (HBX.out.trans (kd.mono HBX.out.size))).mono ?_; rintro e w5 ⟨rfl, hb5⟩; have k5 : Below x2.heap.size x2 w5 := bt kd hb5 (Nat.le_refl _)))
                      all_goals
                        go_wp2
                        go_meet
                        case rel => exact ⟨rfl, rfl, Lib.hid (by first | exact k5 | exact k5.drew)⟩
                    case rest =>
                      obtain ⟨hu, hv, HB5⟩ := hcut
                      subst hu
                      subst hv
                      have HBN := Lib.hid (HBX.out.trans (HB5.out.mono HBX.out.size))
                      have p0 := keep p0 HB5.out
                      have p1 := keep p1 HB5.out
                      have p2 := keep p2 HB5.out
                      clear HBS k0 kd HBX HB5
                      have HBX := Lib.hid HBN.out
                      clear HBN
                      rename World => x3
                      clear p0 p1 p2 HNLf HNOf HNLt HNOt HKV
                      go_wp2_with fail
                      go_roundw
                      case rel => exact ⟨K + 1, by omega, by go_num, HBX⟩
                      case measure => simp [intOf]; omega
            · obtain rfl : K = l.length := by omega
              have HBN := Lib.hid (B3.out.trans (HB.out.mono B3.out.size))
              go_wp2_with fail
              go_ret
              exact ⟨rfl, HBN.out⟩
end Go.Proofs.Ytpphiohppgphnaa.Cs
