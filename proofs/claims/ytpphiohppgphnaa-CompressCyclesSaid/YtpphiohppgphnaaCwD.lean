/-
  Compress: the walk of the law CompressCycles.
-/
import Derived.Test.YtpphiohppgphnaaCwC
namespace Go.Proofs.Ytpphiohppgphnaa.Cs
open Go.RowKit Go.Proofs.Ytpphiohppgphnaa Go.Proofs.Ytpphiohppgphnaa.Ls Go.Proofs.Ytpphiohppgphnaa.Kb Go.Proofs.Ytpphiohppgphnaa.Cz
open Go.Proofs.Ytpphiohppgphnaa.Nm hiding ret_bool ret_int hb'

/-- a cell behind two new blocks -/
theorem keep2 {w : World} {p : Addr} {v : Value} (h : w.cell? p = some v) : (∀ o, (w.alloc o).cell? p = some v) ∧ ∀ o o', ((w.alloc o).alloc o').cell? p = some v :=
  ⟨fun _ => keep h ((Below.refl _ _).alloc (Nat.le_refl _) _), fun _ _ => keep (keep h ((Below.refl _ _).alloc (Nat.le_refl _) _)) ((Below.refl _ _).alloc (Nat.le_refl _) _)⟩
/-- the next of the cycle -/
def nx (n K : Nat) : Nat := if K + 1 < n then K + 1 else 0
set_option maxRecDepth 100000 in
set_option maxHeartbeats 8000000 in
theorem cycles_walk {W : World} (a : Option Addr) (c : Nat) (l : List Tr) (hZ : SzT l ∧ l.length ≤ maxLen) (hA : AtL W 4 trc a l) :
    Calls Try.prog 8 #[.slice a l.length c] W fun e W' => e = .returned (.bool true) ∧ Below W.heap.size W W' := by
  obtain ⟨hZ, hml⟩ := hZ
  have HG := Lib.hid (fun (v : World) (hv : Below W.heap.size W v) => great_any a c l v hml (hA.below hv))
  have HA := Lib.hid hA
  clear hA
  go_enter Try.func8, Try.ntmps8
  go_wp2_with fail
  refine (alive_any W).mono ?_
  rintro e w1 ⟨rfl, hb1⟩
  have B1 := Lib.hid hb1
  clear hb1
  go_wp2_with fail
  refine (HG.out w1 B1.out).mono ?_
  rintro e w2 ⟨rfl, hw2⟩
  have B2 := Lib.hid (show Below W.heap.size W w2 by rw [hw2]; exact B1.out)
  clear hw2 B1 HG
  rcases hb (greatT l) with hg | hg
  · rw [hg]
    go_wp2
    go_ret
    exact ⟨rfl, B2.out⟩
  · have hgn := great_no hg
    rw [hg]
    have hl210 := hgn.2.1
    clear hg hgn
    obtain ⟨r, e0, hr⟩ := cycR_exists l
    have HCY := Lib.hid (cycle_any a c l r e0 w2 (by omega) hZ (HA.out.below B2.out) hr)
    go_wp2_with fail
    refine HCY.out.mono ?_
    rintro e w3 ⟨a3, c3, rfl, ho3, hb3⟩
    have B3 := Lib.hid (bt B2.out hb3 (Nat.le_refl _))
    have HO3 := Lib.hid (ho3.sl ic_len).1
    have HCH := Lib.hid (check_any a c l w3 (by omega) hZ (HA.out.below B3.out))
    clear ho3 hb3 B2 HCY
    cases hr with
    | bad h =>
      have h1 : chkE l = 4 ∨ chkE l = 8 := by
        rcases chk_cases l with ⟨h0, _⟩ | h1 | h1
        · exact absurd h0 h
        · exact .inl h1
        · exact .inr h1
      clear h HO3
      rcases h1 with h1 | h1
      all_goals
        rw [h1] at HCH ⊢
        clear h1
        go_wp2_with fail
        refine HCH.out.mono ?_
        rintro e w4 ⟨rfl, hb4⟩
        have B4 := Lib.hid (bt B3.out hb4 (Nat.le_refl _))
        clear hb4 HCH B3
        go_wp2
        go_ret
        exact ⟨rfl, B4.out⟩
    | none h hr =>
      rw [h] at HCH
      clear h hr HO3
      go_wp2_with fail
      refine HCH.out.mono ?_
      rintro e w4 ⟨rfl, hb4⟩
      have B4 := Lib.hid (bt B3.out hb4 (Nat.le_refl _))
      clear hb4 HCH B3
      go_wp2
      go_ret
      exact ⟨rfl, B4.out⟩
    | some h x r hr =>
      have hvl : vldB l = true := by
        rcases chk_cases l with ⟨_, h1, _⟩ | h1 | h1
        · exact h1
        · rw [h] at h1; cases h1
        · rw [h] at h1; cases h1
      have HY := Lib.hid (cyc_first hvl hr)
      have HNO := Lib.hid (show ∀ j, j < tn (x :: r) 0 → ∀ n, ¬ Rch l (gt l j).con (gt l j).fr n (gt l j).to_ by
        cases hr with
        | some i d tr hi hd hg h => exact h)
      have hcl := cyc_len HY.out
      have h2 := HY.out.two
      clear h hr hvl HCH
      generalize x :: r = cs at *
      have h20 : ((cs.length : Int) < 2) = False := by simp; omega
      have h21 : ((l.length : Int) < cs.length) = False := by simp; omega
      go_wp2_with fail
      go_loopw [6] (fun i wr => ∃ K : Nat, K ≤ cs.length ∧ i = .int .i64 K ∧ Hid (Below w3.heap.size w3 wr)) (fun i _ => cs.length - (intOf i).toNat)
      case atStart => exact ⟨0, by omega, rfl, Below.refl _ _⟩
      case round =>
        obtain ⟨K, hK, rfl, HB⟩ := hrel
        rcases Nat.lt_or_ge K cs.length with hkl | hge
        · have hki : (K : Int) < cs.length := by omega
          have hk0 : (0 : Int) ≤ (K : Int) := by omega
          obtain ⟨cb, co, rfl, z0⟩ := at_il (HO3.out.below HB.out) K hkl
          have hj1 : ¬ ((tn cs K : Int) < 0) := by omega
          have hj2 : (tn cs K : Int) < l.length := by have := HY.out.lt K hkl; omega
          go_wp2_with fail
          go_roundw
          case rel => exact ⟨K + 1, by omega, by go_num, HB⟩
          case measure => simp [intOf]; omega
        · obtain rfl : K = cs.length := by omega
          go_wp2_with fail
          have HB' := Lib.hid HB.out
          clear HB hge hK
          go_loopw [7, 8, 9, 10] (fun i _ _ _ wr => ∃ K : Nat, K ≤ cs.length ∧ i = .int .i64 K ∧ Hid (Below w3.heap.size w3 wr)) (fun i _ _ _ _ => cs.length - (intOf i).toNat)
          case atStart => exact ⟨0, by omega, rfl, HB'⟩
          case round =>
            clear HB'
            obtain ⟨K, hK, rfl, HB⟩ := hrel
            rcases Nat.lt_or_ge K cs.length with hkl | hge
            · have hki : (K : Int) < cs.length := by omega
              have hk0 : (0 : Int) ≤ (K : Int) := by omega
              have hnx : nx cs.length K < cs.length := by unfold nx; split <;> omega
              obtain ⟨J, hJ⟩ : ∃ J, J = nx cs.length K := ⟨_, rfl⟩
              have hrem : Int.tmod ((K : Int) + 1) (cs.length : Int) = (J : Int) := by
                rw [hJ]
                unfold nx
                split
                · rw [Int.tmod_eq_emod_of_nonneg (by omega), Int.emod_eq_of_lt (by omega) (by omega)]; omega
                · rw [show (K : Int) + 1 = cs.length by omega, Int.tmod_eq_emod_of_nonneg (by omega), Int.emod_self]; rfl
              rw [← hJ] at hnx
              have HJ := Lib.hid hJ
              clear hJ
              have hj0 : (0 : Int) ≤ (J : Int) := by omega
              have hj1 : (J : Int) < cs.length := by omega
              have hxl := HY.out.lt K hkl
              have hyl := HY.out.lt J hnx
              have hx0 : (0 : Int) ≤ (tn cs K : Int) := by omega
              have hx1 : (tn cs K : Int) < l.length := by omega
              have hy0 : (0 : Int) ≤ (tn cs J : Int) := by omega
              have hy1 : (tn cs J : Int) < l.length := by omega
              have hCI := HO3.out.below HB.out
              obtain ⟨cb, co, rfl, z0⟩ := at_il hCI K hkl
              obtain ⟨cb', co', hcb, z1⟩ := at_il hCI J hnx
              cases hcb
              obtain ⟨lb, lo, rfl, p0, p1, p2, p3⟩ := at_tr ((HA.out.below B3.out).below HB.out) (tn cs K) hxl
              obtain ⟨q0, q1, q2, q3⟩ := at_tr' ((HA.out.below B3.out).below HB.out) (tn cs J) hyl
              clear hCI
              have z0a := (keep2 z0).1
              have z0b := (keep2 z0).2
              have z1a := (keep2 z1).1
              have z1b := (keep2 z1).2
              have p0a := (keep2 p0).1
              have p0b := (keep2 p0).2
              have p1a := (keep2 p1).1
              have p1b := (keep2 p1).2
              have p2a := (keep2 p2).1
              have p2b := (keep2 p2).2
              have p3a := (keep2 p3).1
              have p3b := (keep2 p3).2
              have q0a := (keep2 q0).1
              have q0b := (keep2 q0).2
              have q1a := (keep2 q1).1
              have q1b := (keep2 q1).2
              have q2a := (keep2 q2).1
              have q2b := (keep2 q2).2
              have q3a := (keep2 q3).1
              have q3b := (keep2 q3).2
              go_wp2_with fail
              go_upto_region 17 with fail
              go_cut [8, 9] from 77 to 94 (fun u v wn => ∃ X Y : Nat, u = .pointer (some ⟨X, 0, none⟩) ∧ v = .pointer (some ⟨Y, 0, none⟩) ∧ Hid (wn.heap[X]? = some (.cells #[.string (gt l (tn cs K)).fr, .string (gt l (tn cs K)).to_, .string (gt l (tn cs K)).con, .int .i64 (gt l (tn cs K)).amt] 31 (0, 0))) ∧ Hid (wn.heap[Y]? = some (.cells #[.string (gt l (tn cs J)).fr, .string (gt l (tn cs J)).to_, .string (gt l (tn cs J)).con, .int .i64 (gt l (tn cs J)).amt] 31 (0, 0))) ∧ Hid (Below w3.heap.size w3 wn))
              case first =>
                go_region
                all_goals
                  clear z0 z0a z0b z1 z1a z1b p0 p0a p0b p1 p1a p1b p2 p2a p2b p3 p3a p3b q0 q0a q0b q1 q1a q1b q2 q2a q2b q3 q3a q3b
                  first
                    | change Exit.then _ _ _ _ ((wr.alloc (.cells #[.string (gt l (tn cs K)).fr, .string (gt l (tn cs K)).to_, .string (gt l (tn cs K)).con, .int .i64 (gt l (tn cs K)).amt] 31)).alloc (.cells #[.string (gt l (tn cs J)).fr, .string (gt l (tn cs J)).to_, .string (gt l (tn cs J)).con, .int .i64 (gt l (tn cs J)).amt] 31)).drew
                      have HTW := Lib.hid (blk_two wr (.cells #[.string (gt l (tn cs K)).fr, .string (gt l (tn cs K)).to_, .string (gt l (tn cs K)).con, .int .i64 (gt l (tn cs K)).amt] 31) (.cells #[.string (gt l (tn cs J)).fr, .string (gt l (tn cs J)).to_, .string (gt l (tn cs J)).con, .int .i64 (gt l (tn cs J)).amt] 31))
                      have HBN := Lib.hid (HB.out.trans (((below_al (below_al (Below.refl wr.heap.size wr) (.cells #[.string (gt l (tn cs K)).fr, .string (gt l (tn cs K)).to_, .string (gt l (tn cs K)).con, .int .i64 (gt l (tn cs K)).amt] 31)) (.cells #[.string (gt l (tn cs J)).fr, .string (gt l (tn cs J)).to_, .string (gt l (tn cs J)).con, .int .i64 (gt l (tn cs J)).amt] 31)).drew).mono HB.out.size))
                      have HX := Lib.hid (blk_drew HTW.out.1)
                      have HYY := Lib.hid (blk_drew HTW.out.2)
                    | change Exit.then _ _ _ _ ((wr.alloc (.cells #[.string (gt l (tn cs J)).fr, .string (gt l (tn cs J)).to_, .string (gt l (tn cs J)).con, .int .i64 (gt l (tn cs J)).amt] 31)).alloc (.cells #[.string (gt l (tn cs K)).fr, .string (gt l (tn cs K)).to_, .string (gt l (tn cs K)).con, .int .i64 (gt l (tn cs K)).amt] 31)).drew
                      have HTW := Lib.hid (blk_two wr (.cells #[.string (gt l (tn cs J)).fr, .string (gt l (tn cs J)).to_, .string (gt l (tn cs J)).con, .int .i64 (gt l (tn cs J)).amt] 31) (.cells #[.string (gt l (tn cs K)).fr, .string (gt l (tn cs K)).to_, .string (gt l (tn cs K)).con, .int .i64 (gt l (tn cs K)).amt] 31))
                      have HBN := Lib.hid (HB.out.trans (((below_al (below_al (Below.refl wr.heap.size wr) (.cells #[.string (gt l (tn cs J)).fr, .string (gt l (tn cs J)).to_, .string (gt l (tn cs J)).con, .int .i64 (gt l (tn cs J)).amt] 31)) (.cells #[.string (gt l (tn cs K)).fr, .string (gt l (tn cs K)).to_, .string (gt l (tn cs K)).con, .int .i64 (gt l (tn cs K)).amt] 31)).drew).mono HB.out.size))
                      have HX := Lib.hid (blk_drew HTW.out.2)
                      have HYY := Lib.hid (blk_drew HTW.out.1)
                  generalize World.drew _ = wn at HX HYY HBN ⊢
                  clear HTW
                  go_wp2
                  go_meet
                  case rel => exact ⟨_, _, rfl, rfl, HX, HYY, HBN⟩
              case rest =>
                clear z0 z0a z0b z1 z1a z1b p0 p0a p0b p1 p1a p1b p2 p2a p2b p3 p3a p3b q0 q0a q0b q1 q1a q1b q2 q2a q2b q3 q3a q3b HB hrem
                obtain ⟨X, Y, rfl, rfl, HX, HYY, HBN⟩ := hcut
                have x0 := cell_of HX.out 0 _ rfl
                have x1 := cell_of HX.out 1 _ rfl
                have x2 := cell_of HX.out 2 _ rfl
                have y0 := cell_of HYY.out 0 _ rfl
                have y2 := cell_of HYY.out 2 _ rfl
                change _ = some (Value.string (gt l (tn cs K)).fr) at x0
                change _ = some (Value.string (gt l (tn cs K)).to_) at x1
                change _ = some (Value.string (gt l (tn cs K)).con) at x2
                change _ = some (Value.string (gt l (tn cs J)).fr) at y0
                change _ = some (Value.string (gt l (tn cs J)).con) at y2
                have ec : (gt l (tn cs K)).con = (gt l (tn cs J)).con := (HY.out.con K hkl).trans (HY.out.con J hnx).symm
                have et : (gt l (tn cs K)).to_ = (gt l (tn cs J)).fr := by
                  have h := HJ.out
                  unfold nx at h
                  split at h
                  · rw [h]; exact HY.out.next K (by omega)
                  · rw [h, show K = cs.length - 1 by omega]; exact HY.out.last
                have e1 := neq_no ec
                have e2 := eq_yes ec
                have e3 := neq_no et
                have e4 := eq_yes et
                have HXX := Lib.hid HX.out
                clear ec et
                go_wp2_with fail
                clear e1 e2 e3 e4 y0 y2 x1 x2 HYY HX
                go_loopw [10] (fun i wx => ∃ M : Nat, M ≤ K ∧ i = .int .i64 M ∧ Hid (Below wc.heap.size wc wx)) (fun i _ => K - (intOf i).toNat)
                case atStart => exact ⟨0, by omega, rfl, Below.refl _ _⟩
                case round =>
                  obtain ⟨M, hM, rfl, HB⟩ := hrel
                  rcases Nat.lt_or_ge M K with hml2 | hge2
                  · have hm1 : (M : Int) < K := by omega
                    have hm2 : (M : Int) < cs.length := by omega
                    have hm0 : (0 : Int) ≤ (M : Int) := by omega
                    have HBX := Lib.hid (HBN.out.trans (HB.out.mono HBN.out.size))
                    obtain ⟨cb', co', hcb, z0⟩ := at_il (HO3.out.below HBX.out) M (by omega)
                    cases hcb
                    have hlm := HY.out.lt M (by omega)
                    obtain ⟨p0, _, _, _⟩ := at_tr' ((HA.out.below B3.out).below HBX.out) (tn cs M) hlm
                    have hl0 : (0 : Int) ≤ (tn cs M : Int) := by omega
                    have hl1 : (tn cs M : Int) < l.length := by omega
                    have x0 := keep x0 HB.out
                    have e1 := eq_no (a := (gt l (tn cs M)).fr) (b := (gt l (tn cs K)).fr) (fun e => by have := HY.out.diff M K (by omega) hkl e; omega)
                    go_wp2_with fail
                    go_big_quiet (fail)
                    go_wp2_with fail
                    go_roundw
                    case rel => exact ⟨M + 1, by omega, by go_num, below_drewN HB.out _⟩
                    case measure => simp [intOf]; omega
                  · obtain rfl : M = K := by omega
                    have HBX := Lib.hid (HBN.out.trans (HB.out.mono HBN.out.size))
                    go_wp2_with fail
                    go_roundw
                    case rel => exact ⟨M + 1, by omega, by go_num, HBX⟩
                    case measure => simp [intOf]; omega
            · obtain rfl : K = cs.length := by omega
              go_wp2_with fail
              have HB' := Lib.hid HB.out
              clear HB
              clear hge hK
              go_loopw [11] (fun i wr => ∃ K : Nat, K ≤ tn cs 0 ∧ i = .int .i64 K ∧ Hid (Below w3.heap.size w3 wr)) (fun i _ => tn cs 0 - (intOf i).toNat)
              case atStart => exact ⟨0, by omega, rfl, HB'⟩
              case round =>
                clear HB'
                obtain ⟨K, hK, rfl, HB⟩ := hrel
                obtain ⟨cb, co, rfl, z0⟩ := at_il (HO3.out.below HB.out) 0 (by omega)
                rw [Nat.add_zero] at z0
                have hk20 : (0 : Int) < cs.length := by omega
                rcases Nat.lt_or_ge K (tn cs 0) with hkl | hge
                · have hl0 := HY.out.lt 0 (by omega)
                  have hki : (K : Int) < (tn cs 0 : Int) := by omega
                  have hk0 : (0 : Int) ≤ (K : Int) := by omega
                  have hkl2 : (K : Int) < l.length := by omega
                  have HAX := Lib.hid ((HA.out.below B3.out).below HB.out)
                  obtain ⟨lb, lo, rfl, p0, p1, p2, _⟩ := at_tr HAX.out K (by omega)
                  have HRE := Lib.hid (fun (v : World) (hv : Below wr.heap.size wr v) => reaches_any (some ⟨lb, lo, none⟩) c l (gt l K).con (gt l K).to_ (gt l K).fr v (by omega) (HAX.out.below hv) (HNO.out K hkl))
                  have HBS := Lib.hid (show ∀ wx, Below wr.heap.size wr wx → wx.cell? ⟨lb, lo + K * 4, none⟩ = some (.string (gt l K).fr) ∧ wx.cell? ⟨lb, lo + K * 4 + 1, none⟩ = some (.string (gt l K).to_) ∧ wx.cell? ⟨lb, lo + K * 4 + 2, none⟩ = some (.string (gt l K).con) from fun wx hx => ⟨keep p0 hx, keep p1 hx, keep p2 hx⟩)
                  have k0 : Below wr.heap.size wr wr := Below.refl _ _
                  have kd := k0.drew
                  go_wp2_with fail
                  go_upto_region 28 with fail
                  go_cut [146] from 130 to 146 (fun q wn => q = .bool false ∧ Hid (Below wr.heap.size wr wn))
                  case first =>
                    go_region_held3 (fun w' => w'.cell? ⟨lb, lo + K * 4, none⟩ = some (.string (gt l K).fr) ∧ w'.cell? ⟨lb, lo + K * 4 + 1, none⟩ = some (.string (gt l K).to_) ∧ w'.cell? ⟨lb, lo + K * 4 + 2, none⟩ = some (.string (gt l K).con))
                      (first | with_reducible exact HBS.out _ (by assumption) | with_reducible exact HBS.out _ (Below.drew (by assumption)) | go_keep)
                      ((go_at_call 26; refine (HRE.out wr.drew kd).mono ?_; rintro e w5 ⟨rfl, hb5⟩; have k5 : Below wr.heap.size wr w5 := bt kd hb5 (Nat.le_refl _)))
                    all_goals
                      go_wp2
                      go_meet
                      case rel => exact ⟨rfl, Lib.hid (by first | exact k5 | exact k5.drew)⟩
                  case rest =>
                    obtain ⟨rfl, HB5⟩ := hcut
                    have HBN := Lib.hid (HB.out.trans (HB5.out.mono HB.out.size))
                    clear HRE HBS k0 kd p0 p1 p2 z0 HAX
                    go_wp2_with fail
                    go_roundw
                    case rel => exact ⟨K + 1, by omega, by go_num, HBN⟩
                    case measure => simp [intOf]; omega
                · obtain rfl : K = tn cs 0 := by omega
                  have HBN := Lib.hid (B3.out.trans (HB.out.mono B3.out.size))
                  go_wp2_with fail
                  go_ret
                  exact ⟨rfl, HBN.out⟩
end Go.Proofs.Ytpphiohppgphnaa.Cs
