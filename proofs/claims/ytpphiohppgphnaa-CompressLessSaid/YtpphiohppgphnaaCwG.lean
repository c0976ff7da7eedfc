/-
  Compress: the walk of the law CompressLess.
-/
import Derived.Test.YtpphiohppgphnaaCwF
namespace Go.Proofs.Ytpphiohppgphnaa.Cs
open Go.RowKit Go.Proofs.Ytpphiohppgphnaa Go.Proofs.Ytpphiohppgphnaa.Ls Go.Proofs.Ytpphiohppgphnaa.Kb Go.Proofs.Ytpphiohppgphnaa.Cz
open Go.Proofs.Ytpphiohppgphnaa.Nm hiding ret_bool ret_int hb'

/-- what the comparisons find -/
theorem less_facts {l out : List Tr} (hc : chkE l = 0) (k : Cmp l out) : ∃ (r : List Nat) (e1 : Int) (A B : Int), CycR l r e1 ∧ CycR out [] 6 ∧ groF l = A ∧ groF out = B ∧ chkE out = 0 ∧ ¬ (A < B) ∧ ((e1 = 0 ∧ B < A) ∨ (e1 = 6 ∧ out = l ∧ ¬ B < A)) := by
  have hv := vld_of hc
  obtain ⟨h1, h2, h3, _, h5⟩ := cmp_facts k hv
  have hco := (net_same hc k).1
  have ga := (netF_sum hc ⟨#[]⟩ ⟨#[]⟩).2.2
  have gb := (netF_sum hco ⟨#[]⟩ ⟨#[]⟩).2.2
  obtain ⟨r, hr⟩ := first_exists l
  cases r with
  | nil =>
    refine ⟨[], 6, _, _, .none hc hr, .none hco h3, rfl, rfl, hco, by omega, .inr ?_⟩
    rcases cmp_cases k with ⟨_, e⟩ | ⟨x, r, h, _⟩
    · subst e
      exact ⟨rfl, rfl, by omega⟩
    · exact absurd (hr.uniq h) (by simp)
  | cons x r =>
    have := cmp_falls k hv hr
    exact ⟨x :: r, 0, _, _, .some hc x r hr, .none hco h3, rfl, rfl, hco, by omega, .inl ⟨rfl, by omega⟩⟩
/-- a cell behind two new blocks -/
theorem keep2 {w : World} {p : Addr} {v : Value} (h : w.cell? p = some v) : (∀ o, (w.alloc o).cell? p = some v) ∧ ∀ o o', ((w.alloc o).alloc o').cell? p = some v :=
  ⟨fun _ => keep h ((Below.refl _ _).alloc (Nat.le_refl _) _), fun _ _ => keep (keep h ((Below.refl _ _).alloc (Nat.le_refl _) _)) ((Below.refl _ _).alloc (Nat.le_refl _) _)⟩
theorem drop_eq {l : List Tr} {A : Nat} {y : Tr} {o : List Tr} (h : l.drop A = y :: o) : A < l.length ∧ y = gt l A ∧ o = l.drop (A + 1) := by
  have hl : A < l.length := by
    rcases Nat.lt_or_ge A l.length with g | g
    · exact g
    · rw [List.drop_of_length_le g] at h
      cases h
  rw [drop_gt l A hl] at h
  injection h with h1 h2
  exact ⟨hl, h1.symm, h2.symm⟩
set_option maxRecDepth 100000 in
set_option maxHeartbeats 8000000 in
theorem less_walk {W : World} (a : Option Addr) (c : Nat) (l : List Tr) (hZ : SzT l ∧ l.length ≤ maxLen) (hA : AtL W 4 trc a l) :
    Calls Try.prog 7 #[.slice a l.length c] W fun e W' => e = .returned (.bool true) ∧ Below W.heap.size W W' := by
  obtain ⟨hZ, hml⟩ := hZ
  have HG := Lib.hid (fun (v : World) (hv : Below W.heap.size W v) => great_any a c l v hml (hA.below hv))
  have HA := Lib.hid hA
  clear hA
  go_enter Try.func7, Try.ntmps7
  go_wp2_with fail
  refine (alive_any W).mono ?_
  rintro e w1 ⟨rfl, hb1⟩
  have B1 := Lib.hid hb1
  clear hb1
  go_wp2_with fail
  refine (HG.out w1 B1.out).mono ?_
  rintro e w2 ⟨rfl, hw2⟩
  have B2 := Lib.hid (show Below W.heap.size W w2 by rw [hw2]; exact B1.out)
  clear hw2 B1 HG
  rcases hb (greatT l) with hg | hg
  · rw [hg]
    go_wp2
    go_ret
    exact ⟨rfl, B2.out⟩
  · have hgn := great_no hg
    have hl210 := hgn.2.1
    rw [hg]
    clear hg hgn
    obtain ⟨out, e0, hr⟩ := comR_exists l
    have HCM := Lib.hid (compress_any a c l out e0 w2 (by omega) hZ (HA.out.below B2.out) hr)
    go_wp2_with fail
    refine HCM.out.mono ?_
    rintro e w3 ⟨oa, oc, rfl, ho3, hb3⟩
    have B3 := Lib.hid (bt B2.out hb3 (Nat.le_refl _))
    have HO3 := Lib.hid (ho3.sl trc_len).1
    clear ho3 hb3 B2 HCM
    cases hr with
    | bad h =>
      have h1 : chkE l = 4 ∨ chkE l = 8 := by
        rcases chk_cases l with ⟨h0, _⟩ | h1 | h1
        · exact absurd h0 h
        · exact .inl h1
        · exact .inr h1
      clear h HO3
      rcases h1 with h1 | h1
      all_goals
        rw [h1]
        clear h1
        go_wp2
        go_ret
        exact ⟨rfl, B3.out⟩
    | ok h out k =>
      have hv := vld_of h
      have hlo := (cmp_facts k hv).2.1
      have HEM := Lib.hid (cmp_emb k hv)
      have HKY := Lib.hid (fun (K : Nat) (hK : K < l.length) => vld_keys hv hK)
      have hZO := szT_vld hv hZ k
      obtain ⟨r, e1, A, B, hR, hRO, hgA, hgB, hco, hAB, hcase⟩ := less_facts h k
      have HCO := Lib.hid (fun (v : World) (hv : Below w3.heap.size w3 v) => cycle_any oa oc out [] 6 v (by omega) hZO (HO3.out.below hv) hRO)
      have HCL := Lib.hid (fun (v : World) (hv : Below w3.heap.size w3 v) => cycle_any a c l r e1 v (by omega) hZ ((HA.out.below B3.out).below hv) hR)
      have HGL := Lib.hid (fun (v : World) (hv : Below w3.heap.size w3 v) => gross_any a c l v (by omega) hZ ((HA.out.below B3.out).below hv))
      have HGO := Lib.hid (fun (v : World) (hv : Below w3.heap.size w3 v) => gross_any oa oc out v (by omega) hZO (HO3.out.below hv))
      have HSM := Lib.hid (fun (v : World) (hv : Below w3.heap.size w3 v) => same_any oa a oc c out l out.length l.length v rfl rfl (by omega) (HO3.out.below hv) ((HA.out.below B3.out).below hv))
      rw [hgA, h] at HGL
      rw [hgB, hco] at HGO
      clear h k hv hR hRO hgA hgB hco
      simp only [List.length_nil] at HCO
      go_wp2_with fail
      refine (HCO.out w3 (Below.refl _ _)).mono ?_
      rintro e w4 ⟨a4, c4, rfl, _, hb4⟩
      have B4 := Lib.hid hb4
      clear hb4 HCO
      go_wp2_with fail
      refine (HCL.out w4 B4.out).mono ?_
      rintro e w5 ⟨a5, c5, rfl, _, hb5⟩
      have B5 := Lib.hid (bt B4.out hb5 (Nat.le_refl _))
      clear hb5 HCL B4
      go_wp2_with fail
      refine (HGL.out w5 B5.out).mono ?_
      rintro e w6 ⟨rfl, hb6⟩
      have B6 := Lib.hid (bt B5.out hb6 (Nat.le_refl _))
      clear hb6 HGL B5
      go_wp2_with fail
      refine (HGO.out w6 B6.out).mono ?_
      rintro e w7 ⟨rfl, hb7⟩
      have B7 := Lib.hid (bt B6.out hb7 (Nat.le_refl _))
      clear hb7 HGO B6
      have d1 : decide (A < B) = false := decide_eq_false (by omega)
      rcases hcase with ⟨rfl, hlt⟩ | ⟨rfl, heq, hnl⟩
      · have d2 : decide (B < A) = true := decide_eq_true hlt
        clear hlt hAB HSM
        go_wp2_with fail
        have BZ := Lib.hid B7.out
        clear B7 d1 d2
        go_loopw [14, 15, 16] (fun at_ i _ wr => ∃ K Q : Nat, K ≤ l.length ∧ Q ≤ out.length ∧ i = .int .i64 K ∧ at_ = .int .i64 Q ∧ Hid (Emb (l.drop K) (out.drop Q)) ∧ Hid (Below w3.heap.size w3 wr)) (fun _ i _ _ => l.length - (intOf i).toNat)
        case atStart => exact ⟨0, 0, by omega, by omega, rfl, rfl, HEM, BZ⟩
        case round =>
          clear BZ HEM
          obtain ⟨K, Q, hK, hQ, rfl, rfl, HEM, HB⟩ := hrel
          rcases Nat.lt_or_ge K l.length with hkl | hge
          · have hki : (K : Int) < l.length := by omega
            have hk0 : (0 : Int) ≤ (K : Int) := by omega
            have hq0 : (0 : Int) ≤ (Q : Int) := by omega
            obtain ⟨lb, lo, hla, p0, p1, p2, p3⟩ := at_tr ((HA.out.below B3.out).below HB.out) K hkl
            subst hla
            have hst := emb_step (by have h := HEM.out; rw [drop_gt l K hkl] at h; exact h) (HKY.out K hkl)
            have hal := (Below.refl wr.heap.size wr).alloc (Nat.le_refl _) (.cells #[.string (gt l K).fr, .string (gt l K).to_, .string (gt l K).con, .int .i64 (gt l K).amt] 31)
            have hx := blk_new wr (.cells #[.string (gt l K).fr, .string (gt l K).to_, .string (gt l K).con, .int .i64 (gt l K).amt] 31)
            have HX := Lib.hid hx
            have HBA := Lib.hid (HB.out.trans (hal.mono HB.out.size))
            clear hal hx
            rcases Nat.lt_or_ge Q out.length with hql | hqge
            · have hqi : (Q : Int) < out.length := by omega
              obtain ⟨ob, oo, hoa, q0, q1, q2, q3⟩ := at_tr (HO3.out.below HB.out) Q hql
              subst hoa
              have q0 := (keep2 q0).1 (.cells #[.string (gt l K).fr, .string (gt l K).to_, .string (gt l K).con, .int .i64 (gt l K).amt] 31)
              have q1 := (keep2 q1).1 (.cells #[.string (gt l K).fr, .string (gt l K).to_, .string (gt l K).con, .int .i64 (gt l K).amt] 31)
              have q2 := (keep2 q2).1 (.cells #[.string (gt l K).fr, .string (gt l K).to_, .string (gt l K).con, .int .i64 (gt l K).amt] 31)
              have q3 := (keep2 q3).1 (.cells #[.string (gt l K).fr, .string (gt l K).to_, .string (gt l K).con, .int .i64 (gt l K).amt] 31)
              have x0 := cell_of HX.out 0 _ rfl
              have x1 := cell_of HX.out 1 _ rfl
              have x2 := cell_of HX.out 2 _ rfl
              have x3 := cell_of HX.out 3 _ rfl
              change _ = some (Value.string (gt l K).fr) at x0
              change _ = some (Value.string (gt l K).to_) at x1
              change _ = some (Value.string (gt l K).con) at x2
              change _ = some (Value.int .i64 (gt l K).amt) at x3
              rcases hst with ⟨y, o', hy, hle, hem⟩ | ⟨hnk, hem⟩
              · obtain ⟨_, rfl, rfl⟩ := drop_eq hy
                have HE2 := Lib.hid hem
                have e1 := eq_yes hle.1
                have e2 := eq_yes hle.2.1
                have e3 := eq_yes hle.2.2.1
                have d3 : decide ((gt out Q).amt < 1) = false := decide_eq_false (by have := hle.2.2.2.1; omega)
                have d4 : decide ((gt l K).amt < (gt out Q).amt) = false := decide_eq_false (by have := hle.2.2.2.2; omega)
                clear hy hle hem
                go_wp2_with fail
                clear p0 p1 p2 p3
                generalize wr.alloc _ = wx at HX HBA q0 q1 q2 q3 x0 x1 x2 x3 ⊢
                have q3d := fun n => (show (wx.drewN n).cell? ⟨ob, oo + Q * 4 + 3, none⟩ = some (.int .i64 (gt out Q).amt) from q3)
                have x3d := fun n => (show (wx.drewN n).cell? ⟨wr.heap.size, 3, none⟩ = some (.int .i64 (gt l K).amt) from x3)
                go_big_quiet (fail)
                go_wp2_with fail
                go_big_quiet (fail)
                go_wp2_with fail
                go_roundw
                case rel => exact ⟨K + 1, Q + 1, by omega, by omega, by go_num, by go_num, HE2, below_drewN HBA.out _⟩
                case measure => simp [intOf]; omega
              · have HE2 := Lib.hid (show Emb (l.drop (K + 1)) (out.drop Q) from hem)
                have hkk : ¬ Key (gt l K) (gt out Q) := hnk _ _ (drop_gt out Q hql)
                clear hnk hem
                by_cases f1 : (gt out Q).fr = (gt l K).fr
                · by_cases f2 : (gt out Q).to_ = (gt l K).to_
                  · have e1 := eq_yes f1
                    have e2 := eq_yes f2
                    have e3 := eq_no (fun f3 => hkk ⟨f1, f2, f3⟩)
                    clear hkk f1 f2
                    go_wp2_with fail
                    clear p0 p1 p2 p3
                    generalize wr.alloc _ = wx at HX HBA q0 q1 q2 q3 x0 x1 x2 x3 ⊢
                    go_big_quiet (fail)
                    go_wp2_with fail
                    go_roundw
                    case rel => exact ⟨K + 1, Q, by omega, by omega, by go_num, rfl, HE2, below_drewN HBA.out _⟩
                    case measure => simp [intOf]; omega
                  · have e1 := eq_yes f1
                    have e2 := eq_no f2
                    clear hkk f1 f2
                    go_wp2_with fail
                    clear p0 p1 p2 p3
                    generalize wr.alloc _ = wx at HX HBA q0 q1 q2 q3 x0 x1 x2 x3 ⊢
                    go_big_quiet (fail)
                    go_wp2_with fail
                    go_roundw
                    case rel => exact ⟨K + 1, Q, by omega, by omega, by go_num, rfl, HE2, below_drewN HBA.out _⟩
                    case measure => simp [intOf]; omega
                · have e1 := eq_no f1
                  clear hkk f1
                  go_wp2_with fail
                  clear p0 p1 p2 p3
                  generalize wr.alloc _ = wx at HX HBA q0 q1 q2 q3 x0 x1 x2 x3 ⊢
                  go_big_quiet (fail)
                  go_wp2_with fail
                  go_roundw
                  case rel => exact ⟨K + 1, Q, by omega, by omega, by go_num, rfl, HE2, below_drewN HBA.out _⟩
                  case measure => simp [intOf]; omega
            · obtain rfl : Q = out.length := by omega
              have HE2 := Lib.hid (show Emb (l.drop (K + 1)) (out.drop out.length) by
                rcases hst with ⟨y, o', hy, _, _⟩ | ⟨_, hem⟩
                · rw [List.drop_of_length_le hqge] at hy; cases hy
                · exact hem)
              clear hst
              go_wp2_with fail
              clear p0 p1 p2 p3
              go_big_quiet (fail)
              go_wp2_with fail
              go_roundw
              case rel => exact ⟨K + 1, out.length, by omega, by omega, by go_num, rfl, HE2, below_drewN HBA.out _⟩
              case measure => simp [intOf]; omega
          · obtain rfl : K = l.length := by omega
            have hqe : Q = out.length := by
              have h := HEM.out
              rw [List.drop_of_length_le (Nat.le_refl _)] at h
              have h := congrArg List.length (emb_nil h)
              rw [List.length_drop, List.length_nil] at h
              omega
            have HBN := Lib.hid (B3.out.trans (HB.out.mono B3.out.size))
            subst hqe
            go_wp2_with fail
            go_ret
            exact ⟨rfl, HBN.out⟩
      · have d2 : decide (B < A) = false := decide_eq_false (by omega)
        have HSQ : Hid (Calls Try.prog 13 #[.slice oa out.length oc, .slice a l.length c] w7 fun e w' => e = .returned (.bool true) ∧ Below w7.heap.size w7 w') := (HSM.out w7 B7.out).mono (by rintro e w ⟨rfl, hb⟩; exact ⟨by simp [heq], hb⟩)
        clear heq hAB hnl HSM
        go_wp2_with fail
        refine HSQ.out.mono ?_
        rintro e w8 ⟨rfl, hb8⟩
        have BZ := Lib.hid (bt B7.out hb8 (Nat.le_refl _))
        clear hb8 HSQ B7
        go_wp2_with fail
        clear d1 d2
        go_loopw [14, 15, 16] (fun at_ i _ wr => ∃ K Q : Nat, K ≤ l.length ∧ Q ≤ out.length ∧ i = .int .i64 K ∧ at_ = .int .i64 Q ∧ Hid (Emb (l.drop K) (out.drop Q)) ∧ Hid (Below w3.heap.size w3 wr)) (fun _ i _ _ => l.length - (intOf i).toNat)
        case atStart => exact ⟨0, 0, by omega, by omega, rfl, rfl, HEM, BZ⟩
        case round =>
          clear BZ HEM
          obtain ⟨K, Q, hK, hQ, rfl, rfl, HEM, HB⟩ := hrel
          rcases Nat.lt_or_ge K l.length with hkl | hge
          · have hki : (K : Int) < l.length := by omega
            have hk0 : (0 : Int) ≤ (K : Int) := by omega
            have hq0 : (0 : Int) ≤ (Q : Int) := by omega
            obtain ⟨lb, lo, hla, p0, p1, p2, p3⟩ := at_tr ((HA.out.below B3.out).below HB.out) K hkl
            subst hla
            have hst := emb_step (by have h := HEM.out; rw [drop_gt l K hkl] at h; exact h) (HKY.out K hkl)
            have hal := (Below.refl wr.heap.size wr).alloc (Nat.le_refl _) (.cells #[.string (gt l K).fr, .string (gt l K).to_, .string (gt l K).con, .int .i64 (gt l K).amt] 31)
            have hx := blk_new wr (.cells #[.string (gt l K).fr, .string (gt l K).to_, .string (gt l K).con, .int .i64 (gt l K).amt] 31)
            have HX := Lib.hid hx
            have HBA := Lib.hid (HB.out.trans (hal.mono HB.out.size))
            clear hal hx
            rcases Nat.lt_or_ge Q out.length with hql | hqge
            · have hqi : (Q : Int) < out.length := by omega
              obtain ⟨ob, oo, hoa, q0, q1, q2, q3⟩ := at_tr (HO3.out.below HB.out) Q hql
              subst hoa
              have q0 := (keep2 q0).1 (.cells #[.string (gt l K).fr, .string (gt l K).to_, .string (gt l K).con, .int .i64 (gt l K).amt] 31)
              have q1 := (keep2 q1).1 (.cells #[.string (gt l K).fr, .string (gt l K).to_, .string (gt l K).con, .int .i64 (gt l K).amt] 31)
              have q2 := (keep2 q2).1 (.cells #[.string (gt l K).fr, .string (gt l K).to_, .string (gt l K).con, .int .i64 (gt l K).amt] 31)
              have q3 := (keep2 q3).1 (.cells #[.string (gt l K).fr, .string (gt l K).to_, .string (gt l K).con, .int .i64 (gt l K).amt] 31)
              have x0 := cell_of HX.out 0 _ rfl
              have x1 := cell_of HX.out 1 _ rfl
              have x2 := cell_of HX.out 2 _ rfl
              have x3 := cell_of HX.out 3 _ rfl
              change _ = some (Value.string (gt l K).fr) at x0
              change _ = some (Value.string (gt l K).to_) at x1
              change _ = some (Value.string (gt l K).con) at x2
              change _ = some (Value.int .i64 (gt l K).amt) at x3
              rcases hst with ⟨y, o', hy, hle, hem⟩ | ⟨hnk, hem⟩
              · obtain ⟨_, rfl, rfl⟩ := drop_eq hy
                have HE2 := Lib.hid hem
                have e1 := eq_yes hle.1
                have e2 := eq_yes hle.2.1
                have e3 := eq_yes hle.2.2.1
                have d3 : decide ((gt out Q).amt < 1) = false := decide_eq_false (by have := hle.2.2.2.1; omega)
                have d4 : decide ((gt l K).amt < (gt out Q).amt) = false := decide_eq_false (by have := hle.2.2.2.2; omega)
                clear hy hle hem
                go_wp2_with fail
                clear p0 p1 p2 p3
                generalize wr.alloc _ = wx at HX HBA q0 q1 q2 q3 x0 x1 x2 x3 ⊢
                have q3d := fun n => (show (wx.drewN n).cell? ⟨ob, oo + Q * 4 + 3, none⟩ = some (.int .i64 (gt out Q).amt) from q3)
                have x3d := fun n => (show (wx.drewN n).cell? ⟨wr.heap.size, 3, none⟩ = some (.int .i64 (gt l K).amt) from x3)
                go_big_quiet (fail)
                go_wp2_with fail
                go_big_quiet (fail)
                go_wp2_with fail
                go_roundw
                case rel => exact ⟨K + 1, Q + 1, by omega, by omega, by go_num, by go_num, HE2, below_drewN HBA.out _⟩
                case measure => simp [intOf]; omega
              · have HE2 := Lib.hid (show Emb (l.drop (K + 1)) (out.drop Q) from hem)
                have hkk : ¬ Key (gt l K) (gt out Q) := hnk _ _ (drop_gt out Q hql)
                clear hnk hem
                by_cases f1 : (gt out Q).fr = (gt l K).fr
                · by_cases f2 : (gt out Q).to_ = (gt l K).to_
                  · have e1 := eq_yes f1
                    have e2 := eq_yes f2
                    have e3 := eq_no (fun f3 => hkk ⟨f1, f2, f3⟩)
                    clear hkk f1 f2
                    go_wp2_with fail
                    clear p0 p1 p2 p3
                    generalize wr.alloc _ = wx at HX HBA q0 q1 q2 q3 x0 x1 x2 x3 ⊢
                    go_big_quiet (fail)
                    go_wp2_with fail
                    go_roundw
                    case rel => exact ⟨K + 1, Q, by omega, by omega, by go_num, rfl, HE2, below_drewN HBA.out _⟩
                    case measure => simp [intOf]; omega
                  · have e1 := eq_yes f1
                    have e2 := eq_no f2
                    clear hkk f1 f2
                    go_wp2_with fail
                    clear p0 p1 p2 p3
                    generalize wr.alloc _ = wx at HX HBA q0 q1 q2 q3 x0 x1 x2 x3 ⊢
                    go_big_quiet (fail)
                    go_wp2_with fail
                    go_roundw
                    case rel => exact ⟨K + 1, Q, by omega, by omega, by go_num, rfl, HE2, below_drewN HBA.out _⟩
                    case measure => simp [intOf]; omega
                · have e1 := eq_no f1
                  clear hkk f1
                  go_wp2_with fail
                  clear p0 p1 p2 p3
                  generalize wr.alloc _ = wx at HX HBA q0 q1 q2 q3 x0 x1 x2 x3 ⊢
                  go_big_quiet (fail)
                  go_wp2_with fail
                  go_roundw
                  case rel => exact ⟨K + 1, Q, by omega, by omega, by go_num, rfl, HE2, below_drewN HBA.out _⟩
                  case measure => simp [intOf]; omega
            · obtain rfl : Q = out.length := by omega
              have HE2 := Lib.hid (show Emb (l.drop (K + 1)) (out.drop out.length) by
                rcases hst with ⟨y, o', hy, _, _⟩ | ⟨_, hem⟩
                · rw [List.drop_of_length_le hqge] at hy; cases hy
                · exact hem)
              clear hst
              go_wp2_with fail
              clear p0 p1 p2 p3
              go_big_quiet (fail)
              go_wp2_with fail
              go_roundw
              case rel => exact ⟨K + 1, out.length, by omega, by omega, by go_num, rfl, HE2, below_drewN HBA.out _⟩
              case measure => simp [intOf]; omega
          · obtain rfl : K = l.length := by omega
            have hqe : Q = out.length := by
              have h := HEM.out
              rw [List.drop_of_length_le (Nat.le_refl _)] at h
              have h := congrArg List.length (emb_nil h)
              rw [List.length_drop, List.length_nil] at h
              omega
            have HBN := Lib.hid (B3.out.trans (HB.out.mono B3.out.size))
            subst hqe
            go_wp2_with fail
            go_ret
            exact ⟨rfl, HBN.out⟩
end Go.Proofs.Ytpphiohppgphnaa.Cs
