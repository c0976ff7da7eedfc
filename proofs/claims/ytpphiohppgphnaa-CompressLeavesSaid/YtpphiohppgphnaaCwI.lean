/-
  Compress: the walk of the law CompressLeaves.
-/
import Derived.Test.YtpphiohppgphnaaCwF
import Derived.Test.YtpphiohppgphnaaCvJ
import Derived.Test.YtpphiohppgphnaaCwC
namespace Go.Proofs.Ytpphiohppgphnaa.Cs
open Go.RowKit Go.ChangeShapes Go.WideShapes Go.Deep Go.Proofs.Ytpphiohppgphnaa Go.Proofs.Ytpphiohppgphnaa.Ls Go.Proofs.Ytpphiohppgphnaa.Kb Go.Proofs.Ytpphiohppgphnaa.Cz
open Go.Proofs.Ytpphiohppgphnaa.Nm hiding ret_bool ret_int hb'

/-- trades as the statements hand them, with their room -/
theorem open_tc {H : Type} {enc : TypeId × Value → H} {W : World} {spare : Nat → Bool} {held : Bool} {r : Reach} {b0 : Nat} {v : Value} {d : DataW H} {p : List MemPlace} (hv : Value.okWide Try.prog W r b0 22 v) (h : DataW.Trod enc Try.prog W 0 spare held 22 v d p) :
    ∃ (a : Option Addr) (c : Nat) (L : List Tr), v = .slice a L.length c ∧ (SzT L ∧ L.length ≤ maxLen ∧ L.length ≤ c ∧ c ≤ maxLen) ∧ AtL W 4 trc a L := by
  obtain ⟨a, c, L, rfl, h1, h2⟩ := open_tl hv h
  obtain ⟨fuel, hf⟩ := h
  obtain ⟨a', len, cap, hs, hl, hm, _⟩ := open_cells 4 (by decide) Try.underlying22 (by kernel_rfl) hf
  obtain ⟨_, hlen, hcap⟩ := Value.slice.inj hs
  exact ⟨a, c, L, rfl, ⟨h1.1, h1.2, by omega, by omega⟩, h2⟩
theorem at_part {w : World} {b off F m : Nat} {l : List Tr} (h : AtL w 4 trc (some ⟨b, off, none⟩) l) : AtL w 4 trc (some ⟨b, off + F * 4, none⟩) ((l.take m).drop F) := by
  intro j x hj
  refine ⟨b, off + F * 4, rfl, fun t u hu => ?_⟩
  rw [List.getElem?_drop, List.getElem?_take] at hj
  split at hj
  · obtain ⟨b', off', hb, hc⟩ := h (F + j) x hj
    cases hb
    have := hc t u hu
    rwa [Nat.add_mul, ← Nat.add_assoc] at this
  · cases hj
theorem compress_m (a : Option Addr) (c n : Nat) (l out : List Tr) (w : World) (hl : l.length = n) (hn : n ≤ 1000) (hZ : SzT l) (hA : AtL w 4 trc a l) (hr : ComR l out 0) :
    Calls Try.prog 11 #[.slice a n c] w fun e w' => ∃ a' c', e = .returned (.tuple #[.slice a' out.length c', .int .i64 0]) ∧ AtL w' 4 trc a' out ∧ Below w.heap.size w w' := by
  subst hl
  refine (compress_any a c l out 0 w hn hZ hA hr).mono ?_
  rintro e w' ⟨a', c', rfl, ho, hb⟩
  exact ⟨a', c', rfl, (ho.sl trc_len).1, hb⟩
/-- are trades equal? -/
def eqTB (x y : Tr) : Bool := decide (x.fr = y.fr) && decide (x.to_ = y.to_) && decide (x.con = y.con) && decide (x.amt = y.amt)
theorem eqTB_iff (x y : Tr) : eqTB x y = true ↔ x = y := by
  unfold eqTB
  simp only [Bool.and_eq_true, decide_eq_true_eq]
  exact ⟨fun h => tr_ext h.1.1.1 h.1.1.2 h.1.2 h.2, fun h => by rw [h]; exact ⟨⟨⟨rfl, rfl⟩, rfl⟩, rfl⟩⟩
theorem eqTB_run (x y : Tr) (b : Bool) (hb : eqTB x y = b) (w : World) : (binOp .eql 31 (.agg #[.string x.fr, .string x.to_, .string x.con, .int .i64 x.amt]) (.agg #[.string y.fr, .string y.to_, .string y.con, .int .i64 y.amt])).run Try.prog w = .ok (.bool b) w := by
  refine eql_tr x y b ?_ w
  cases b
  · exact decide_eq_false (fun e => by rw [(eqTB_iff x y).2 e] at hb; cases hb)
  · exact decide_eq_true ((eqTB_iff x y).1 hb)
def thB (x : Tr) (l : List Tr) : Bool := l.any fun y => eqTB y x
theorem thB_of {x : Tr} {l : List Tr} (h : x ∈ l) : thB x l = true := List.any_eq_true.2 ⟨x, h, (eqTB_iff x x).2 rfl⟩
theorem szT_sub {a l : List Tr} (h : a.Sublist l) (hZ : SzT l) : SzT a := szT_of fun x hx => by
  obtain ⟨i, hi, rfl⟩ := mem_gt (h.subset hx)
  exact hZ i
theorem chk_sub {a l : List Tr} (h : a.Sublist l) (hv : vldB l = true) (hl : l.length ≤ 200) : chkE a = 0 := chk_of (vld_sub h hv) (by have := h.length_le; omega)
set_option maxRecDepth 100000 in
set_option maxHeartbeats 8000000 in
theorem leaves_walk {W : World} (a : Option Addr) (c : Nat) (l : List Tr) (hZ : SzT l ∧ l.length ≤ maxLen ∧ l.length ≤ c ∧ c ≤ maxLen) (hA : AtL W 4 trc a l) :
    Calls Try.prog 9 #[.slice a l.length c] W fun e W' => e = .returned (.bool true) ∧ Below W.heap.size W W' := by
  obtain ⟨hZ, hml, hlc, hcm⟩ := hZ
  have HG := Lib.hid (fun (v : World) (hv : Below W.heap.size W v) => great_any a c l v hml (hA.below hv))
  have HA := Lib.hid hA
  clear hA
  go_enter Try.func9, Try.ntmps9
  go_wp2_with fail
  refine (alive_any W).mono ?_
  rintro e w1 ⟨rfl, hb1⟩
  have B1 := Lib.hid hb1
  clear hb1
  go_wp2_with fail
  refine (HG.out w1 B1.out).mono ?_
  rintro e w2 ⟨rfl, hw2⟩
  have B2 := Lib.hid (show Below W.heap.size W w2 by rw [hw2]; exact B1.out)
  clear hw2 B1 HG
  rcases hb (greatT l) with hg | hg
  · rw [hg]
    go_wp2
    go_ret
    exact ⟨rfl, B2.out⟩
  · have hgn := great_no hg
    have hl210 := hgn.2.1
    rw [hg]
    clear hg hgn
    obtain ⟨out, e0, hr⟩ := comR_exists l
    have HCM := Lib.hid (compress_any a c l out e0 w2 (by omega) hZ (HA.out.below B2.out) hr)
    go_wp2_with fail
    refine HCM.out.mono ?_
    rintro e w3 ⟨oa, oc, rfl, ho3, hb3⟩
    have B3 := Lib.hid (bt B2.out hb3 (Nat.le_refl _))
    have HO3 := Lib.hid (ho3.sl trc_len).1
    have HA3 := Lib.hid (HA.out.below B3.out)
    clear ho3 hb3 B2 HCM HA
    cases hr with
    | bad h =>
      have h1 : chkE l = 4 ∨ chkE l = 8 := by
        rcases chk_cases l with ⟨h0, _⟩ | h1 | h1
        · exact absurd h0 h
        · exact .inl h1
        · exact .inr h1
      clear h HO3
      rcases h1 with h1 | h1
      all_goals
        rw [h1]
        clear h1
        go_wp2
        go_ret
        exact ⟨rfl, B3.out⟩
    | ok h out k =>
      have hv := vld_of h
      have hlo := (cmp_facts k hv).2.1
      have hl200 : l.length ≤ 200 := by
        rcases chk_cases l with ⟨_, _, h2⟩ | h2 | h2
        · exact h2
        · rw [h] at h2; cases h2
        · rw [h] at h2; cases h2
      have HV := Lib.hid hv
      have HST := Lib.hid (fun x hx ho => cmp_stays k hv x hx ho)
      have HCK := Lib.hid k
      clear h k hv
      go_wp2_with fail
      go_loopw [6, 7, 8, 9, 10, 11, 12, 13, 14, 15] (fun apv fr i _ _ _ _ _ _ _ wr => ∃ (I F : Nat) (ap : List Tr) (pa : Option Addr) (pc : Nat), apv = .slice pa ap.length pc ∧ fr = .int .i64 F ∧ i = .int .i64 I ∧ Hid (LvI l I F ap) ∧ Hid (OwnL wr w3.heap.size 31 4 trc (.slice pa ap.length pc) ap) ∧ Hid (Below w3.heap.size w3 wr)) (fun _ _ i _ _ _ _ _ _ _ _ => l.length - (intOf i).toNat)
      case atStart => exact ⟨0, 0, [], none, 0, rfl, rfl, rfl, LvI.start l, OwnL.nil _ _ _ _ _, Below.refl _ _⟩
      case round =>
        obtain ⟨I, F, ap, pa, pc, rfl, rfl, rfl, HL, HOA, HB⟩ := hrel
        have hIl := HL.out.il
        have hFI := HL.out.fi
        have hapl := HL.out.len HV.out
        rcases Nat.lt_or_ge I l.length with hil | hge
        · have hii : (I : Int) < l.length := by omega
          have hi0 : (0 : Int) ≤ (I : Int) := by omega
          obtain ⟨lb, lo, hla, _⟩ := at_tr (HA3.out.below HB.out) I hil
          subst hla
          go_wp2_with fail
          go_loopw [9, 10, 12] (fun r p k wx => ∃ K : Nat, K ≤ l.length ∧ k = .int .i64 K ∧ r = .bool (rcv (gt l I) (l.take K)) ∧ p = .bool (pay (gt l I) (l.take K)) ∧ Hid (Below wr.heap.size wr wx)) (fun _ _ k _ => l.length - (intOf k).toNat)
          case atStart => exact ⟨0, by omega, rfl, rfl, rfl, Below.refl _ _⟩
          case round =>
            obtain ⟨K, hK, rfl, rfl, rfl, HBX⟩ := hrel
            rcases Nat.lt_or_ge K l.length with hkl | hge
            · have hki : (K : Int) < l.length := by omega
              have hk0 : (0 : Int) ≤ (K : Int) := by omega
              have HAX := Lib.hid ((HA3.out.below HB.out).below HBX.out)
              obtain ⟨p0, p1, p2, _⟩ := at_tr' HAX.out K hkl
              obtain ⟨q0, q1, q2, _⟩ := at_tr' HAX.out I hil
              rename World => wx
              have p0d := fun n => (show (wx.drewN n).cell? _ = _ from p0)
              have p1d := fun n => (show (wx.drewN n).cell? _ = _ from p1)
              have q0d := fun n => (show (wx.drewN n).cell? _ = _ from q0)
              have q1d := fun n => (show (wx.drewN n).cell? _ = _ from q1)
              have HR := Lib.hid (any_take (fun y => decide (y.con = (gt l I).con) && decide (y.to_ = (gt l I).fr)) l K hkl)
              have HP := Lib.hid (any_take (fun y => decide (y.con = (gt l I).con) && decide (y.fr = (gt l I).to_)) l K hkl)
              change Hid (rcv (gt l I) (l.take (K + 1)) = (rcv (gt l I) (l.take K) || _)) at HR
              change Hid (pay (gt l I) (l.take (K + 1)) = (pay (gt l I) (l.take K) || _)) at HP
              generalize rcv (gt l I) (l.take K) = rb at *
              generalize pay (gt l I) (l.take K) = pb at *
              by_cases hc : (gt l K).con = (gt l I).con
              · have e1 := eq_yes hc
                rw [decide_eq_true hc, Bool.true_and] at HR HP
                obtain ⟨d1, hd1⟩ : ∃ d : Bool, decide ((gt l K).to_ = (gt l I).fr) = d := ⟨_, rfl⟩
                obtain ⟨d2, hd2⟩ : ∃ d : Bool, decide ((gt l K).fr = (gt l I).to_) = d := ⟨_, rfl⟩
                have e2 := (eqd (gt l K).to_ (gt l I).fr).trans hd1
                have e3 := (eqd (gt l K).fr (gt l I).to_).trans hd2
                rw [hd1] at HR
                rw [hd2] at HP
                clear hc hd1 hd2
                cases rb <;> cases pb <;> cases d1 <;> cases d2
                all_goals
                  go_wp2_with fail
                  go_big_quiet (fail)
                  go_wp2_with fail
                  go_big_quiet (fail)
                  go_wp2_with fail
                  go_big_quiet (fail)
                  go_wp2_with fail
                  go_roundw
                  case rel => exact ⟨K + 1, by omega, by go_num, by rw [HR.out]; rfl, by rw [HP.out]; rfl, below_drewN HBX.out _⟩
                  case measure => simp [intOf]; omega
              · have e1 := eq_no hc
                rw [decide_eq_false hc, Bool.false_and, Bool.or_false] at HR HP
                clear hc
                go_wp2_with fail
                go_big_quiet (fail)
                go_wp2_with fail
                go_roundw
                case rel => exact ⟨K + 1, by omega, by go_num, by rw [HR.out], by rw [HP.out], below_drewN HBX.out _⟩
                case measure => simp [intOf]; omega
            · obtain rfl : K = l.length := by omega
              rw [List.take_length]
              have HBW := Lib.hid (HB.out.trans (HBX.out.mono HB.out.size))
              have HOA2 := Lib.hid (HOA.out.below HBX.out)
              have HOF := Lib.hid (show (rcv (gt l I) l = false ∨ pay (gt l I) l = false) → thB (gt l I) out = true from fun h => thB_of (HST.out _ (gt_mem l I hil) (off_of h)))
              clear HBX HB HOA hK hge
              generalize rcv (gt l I) l = rb at *
              generalize pay (gt l I) l = pb at *
              rename World => wx
              go_wp2_with fail
              go_loopw [11, 13] (fun t k wy => ∃ K : Nat, K ≤ out.length ∧ k = .int .i64 K ∧ t = .bool (thB (gt l I) (out.take K)) ∧ Hid (Below wx.heap.size wx wy)) (fun _ k _ => out.length - (intOf k).toNat)
              case atStart => exact ⟨0, by omega, rfl, rfl, Below.refl _ _⟩
              case round =>
                obtain ⟨K, hK, rfl, rfl, HBX⟩ := hrel
                rcases Nat.lt_or_ge K out.length with hkl | hge
                · have hki : (K : Int) < out.length := by omega
                  have hk0 : (0 : Int) ≤ (K : Int) := by omega
                  have HBY := Lib.hid (HBW.out.trans (HBX.out.mono HBW.out.size))
                  obtain ⟨ob, oo, hoa, p0, p1, p2, p3⟩ := at_tr (HO3.out.below HBY.out) K hkl
                  subst hoa
                  obtain ⟨q0, q1, q2, q3⟩ := at_tr' (HA3.out.below HBY.out) I hil
                  have HR := Lib.hid (any_take (fun y => eqTB y (gt l I)) out K hkl)
                  change Hid (thB (gt l I) (out.take (K + 1)) = (thB (gt l I) (out.take K) || _)) at HR
                  generalize thB (gt l I) (out.take K) = tb at *
                  obtain ⟨d1, hd1⟩ : ∃ d : Bool, eqTB (gt out K) (gt l I) = d := ⟨_, rfl⟩
                  have hr := fun w => eqTB_run (gt out K) (gt l I) d1 hd1 w
                  have hgd := guard_tr2
                  rw [hd1] at HR
                  clear hd1
                  cases tb
                  · go_wp2_with fail
                    go_quiet (fail)
                    go_wp2_with fail
                    go_roundw
                    case rel => exact ⟨K + 1, by omega, by go_num, by rw [HR.out]; rfl, below_drewN HBX.out _⟩
                    case measure => simp [intOf]; omega
                  · go_wp2_with fail
                    go_quiet (fail)
                    go_wp2_with fail
                    go_roundw
                    case rel => exact ⟨K + 1, by omega, by go_num, by rw [HR.out]; rfl, below_drewN HBX.out _⟩
                    case measure => simp [intOf]; omega
                · obtain rfl : K = out.length := by omega
                  rw [List.take_length]
                  have HBY := Lib.hid (HBW.out.trans (HBX.out.mono HBW.out.size))
                  have HOA3 := Lib.hid (HOA2.out.below HBX.out)
                  clear HBX HBW HOA2 hK hge
                  generalize thB (gt l I) out = tb at *
                  rename World => wy
                  go_upto_region 23 with fail
                  go_cut [115] from 106 to 115 (fun q wn => q = .bool false ∧ wn = wy)
                  case first =>
                    have hof := HOF.out
                    cases rb
                    · obtain rfl := hof (.inl rfl)
                      clear hof
                      go_wp2
                      go_meet
                      case rel => exact ⟨rfl, rfl⟩
                    · cases pb
                      · obtain rfl := hof (.inr rfl)
                        clear hof
                        go_wp2
                        go_meet
                        case rel => exact ⟨rfl, rfl⟩
                      · clear hof
                        go_wp2
                        go_meet
                        case rel => exact ⟨rfl, rfl⟩
                  case rest =>
                    obtain ⟨rfl, hwy⟩ := hcut
                    subst hwy
                    clear HOF
                    obtain ⟨_, _, q2, _⟩ := at_tr' (HA3.out.below HBY.out) I hil
                    by_cases hend : I + 1 = l.length ∨ (gt l (I + 1)).con ≠ (gt l I).con
                    · go_wp2_with fail
                      go_upto_region 25 with fail
                      go_cut [134] from 116 to 134 (fun q wn => q = .bool true ∧ Hid (Below wc.heap.size wc wn))
                      case first =>
                        by_cases hlast : I + 1 = l.length
                        · have hl1 : (((I : Int) + 1) == l.length) = true := by rw [beq_iff_eq]; omega
                          clear hend
                          go_wp2_with fail
                          go_big_quiet (fail)
                          go_wp2
                          go_meet
                          case rel => exact ⟨rfl, Lib.hid (below_drewN (Below.refl _ _) _)⟩
                        · have hne := hend.resolve_left hlast
                          have hl1 : (((I : Int) + 1) == l.length) = false := by rw [beq_eq_false_iff_ne]; omega
                          have hl2 : (I : Int) + 1 < l.length := by omega
                          have hl3 : (0 : Int) ≤ (I : Int) + 1 := by omega
                          obtain ⟨_, _, p2, _⟩ := at_tr' (HA3.out.below HBY.out) (I + 1) (by omega)
                          have e1 := neq_yes hne
                          have e2 := eq_no hne
                          clear hend hne
                          go_wp2_with fail
                          go_big_quiet (fail)
                          go_wp2
                          go_meet
                          case rel => exact ⟨rfl, Lib.hid (below_drewN (Below.refl _ _) _)⟩
                      case rest =>
                        obtain ⟨rfl, HBZ⟩ := hcut
                        have HBW := Lib.hid (HBY.out.trans (HBZ.out.mono HBY.out.size))
                        have HOA4 := Lib.hid (HOA3.out.below HBZ.out)
                        have HEND := Lib.hid hend
                        clear HBZ HBY HOA3 hend q2
                        obtain ⟨part, hpart⟩ := cmp_exists (blk l F I).length (blk l F I) (Nat.le_refl _) (vld_sub (blk_sub l F I) HV.out)
                        have hpl := (cmp_facts hpart (vld_sub (blk_sub l F I) HV.out)).2.1
                        have hbl := blk_len l F I hil
                        have HPC := Lib.hid (compress_m (some ⟨lb, lo + F * 4, none⟩) (c - F) (I + 1 - F) (blk l F I) part wc hbl (by omega) (szT_sub (blk_sub l F I) hZ) (at_part (HA3.out.below HBW.out)) (.ok (chk_sub (blk_sub l F I) HV.out hl200) part hpart))
                        have HLB := Lib.hid (HL.out.block HV.out hil HEND.out hpart)
                        rw [hbl] at hpl
                        clear hpart hbl HEND HL
                        go_wp2_with fail
                        refine HPC.out.mono ?_
                        rintro e w7 ⟨pa7, pc7, rfl, ha7, hb7⟩
                        have HB7 := Lib.hid (bt HBW.out hb7 (Nat.le_refl _))
                        have HO7 := Lib.hid (HOA4.out.below hb7)
                        have HA7 := Lib.hid ha7
                        have hs7 := HB7.out.size
                        clear ha7 hb7 HPC HBW HOA4
                        go_wp2_with (at_builtin; refine wpList_append_LN w7 (P := Try.prog) (α := Tr) rfl _ _ _ rfl 31 (.agg #[.string ⟨#[]⟩, .string ⟨#[]⟩, .string ⟨#[]⟩, .int .i64 0]) 4 56 Try.underlying22 info_tr rfl (by decide) w3.heap.size trc trc_len trc_one (.slice pa ap.length pc) ap part pa7 pc7 rfl part.length rfl rfl HO7.out HA7.out (by unfold maxLen; omega) (by omega) hs7 ?_; intro a8 c8 w8 ho8 hg8)
                        have HB8 := Lib.hid (HB7.out.grown hg8 hs7 (fun r e => (HO7.out.lt r e).1))
                        have HO8 := Lib.hid ho8
                        clear ho8 hg8 HO7 HA7
                        go_wp2_with fail
                        go_roundw
                        case rel => exact ⟨I + 1, I + 1, ap ++ part, a8, c8, by rw [List.length_append], by go_num, by go_num, HLB, by rw [List.length_append]; exact HO8, HB8⟩
                        case measure => simp [intOf]; omega
                    · have hl0 : I + 1 < l.length := by
                        have := fun h => hend (.inl h)
                        omega
                      have hce : (gt l (I + 1)).con = (gt l I).con := Classical.not_not.1 (fun h => hend (.inr h))
                      have hl1 : (((I : Int) + 1) == l.length) = false := by rw [beq_eq_false_iff_ne]; omega
                      have hl2 : (I : Int) + 1 < l.length := by omega
                      have hl3 : (0 : Int) ≤ (I : Int) + 1 := by omega
                      obtain ⟨_, _, p2, _⟩ := at_tr' (HA3.out.below HBY.out) (I + 1) (by omega)
                      have e1 := neq_no hce
                      have e2 := eq_yes hce
                      have HLS := Lib.hid (HL.out.same hl0 hce)
                      clear hend hce
                      go_wp2_with fail
                      go_big_quiet (fail)
                      go_wp2_with fail
                      go_roundw
                      case rel => exact ⟨I + 1, F, ap, pa, pc, rfl, rfl, by go_num, HLS, HOA3.out.below (below_drewN (Below.refl _ _) _), below_drewN HBY.out _⟩
                      case measure => simp [intOf]; omega
        · obtain rfl : I = l.length := by omega
          obtain rfl := HL.out.done HCK.out
          have HSM := Lib.hid (same_any pa oa pc oc ap ap ap.length ap.length wr rfl rfl (by omega) (HOA.out.sl trc_len).1 (HO3.out.below HB.out))
          have HBN := Lib.hid (B3.out.trans (HB.out.mono B3.out.size))
          clear HOA HB HL HST HCK
          go_wp2_with fail
          refine HSM.out.mono ?_
          rintro e w8 ⟨rfl, hb8⟩
          have HBE := Lib.hid (bt HBN.out hb8 (Nat.le_refl _))
          clear hb8 HSM HBN
          go_wp2
          go_ret
          exact ⟨rfl, HBE.out⟩
end Go.Proofs.Ytpphiohppgphnaa.Cs
