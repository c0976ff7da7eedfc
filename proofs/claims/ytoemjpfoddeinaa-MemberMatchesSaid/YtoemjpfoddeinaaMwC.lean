/-
  Member: the walk of the reference's Check.
-/
import Derived.Test.YtoemjpfoddeinaaMwB
namespace Go.Proofs.Ytoemjpfoddeinaa.Mb
open Go.RowKit Go.Proofs.Ytoemjpfoddeinaa Go.Proofs.Ytoemjpfoddeinaa.Ls Go.Proofs.Ytoemjpfoddeinaa.Kb
open Go.Proofs.Ytoemjpfoddeinaa.Nm hiding ret_bool ret_int

def ordM (l : List P) (k : Nat) : Bool := decide (k = 0) || lt (gp l (k - 1)).1.nm (gp l k).1.nm
theorem ordM_all {l : List P} (h : ∀ i, i < l.length → ordM l i = true) : srt (l.map fun x => x.1.nm) = true := by
  rw [srt_iff]
  intro i h0 hi
  rw [List.length_map] at hi
  rw [gs_m, gs_m]
  have := h i hi
  unfold ordM at this
  rw [decide_eq_false (by omega), Bool.false_or] at this
  exact this
theorem ordM_bad {l : List P} {i : Nat} (hi : i < l.length) (h : ordM l i = false) : srt (l.map fun x => x.1.nm) = false := by
  unfold ordM at h
  rw [Bool.or_eq_false_iff] at h
  refine srt_no (i := i) (by have := of_decide_eq_false h.1; omega) (by rw [List.length_map]; exact hi) ?_
  rw [gs_m, gs_m]
  exact h.2

set_option maxRecDepth 100000 in
set_option maxHeartbeats 8000000 in
theorem rcheck_any (a : Option Addr) (c : Nat) (xs : List P) (w : World) (hn : xs.length ≤ 1000) (hZ : ∀ x ∈ xs, OkM x.1) (hA : AtM w a xs) :
    Calls Try.prog 34 #[.agg #[.slice a xs.length c]] w fun e w' => e = .returned (.int .i64 (chk (fst xs))) ∧ Below w.heap.size w w' := by
  have HV := Lib.hid (chk_of xs)
  generalize chk (fst xs) = V at HV ⊢
  have HA := Lib.hid hA
  have HZ := Lib.hid hZ
  clear hA hZ
  have hbo : Below w.heap.size w (w.alloc (.cells #[.slice a xs.length c] 24)) := (Below.refl _ _).alloc (Nat.le_refl _) _
  have HX := Lib.hid (blk_new w (.cells #[.slice a xs.length c] 24))
  by_cases h1 : 64 < xs.length
  case pos =>
    have HVF := Lib.hid (show V = 8 by rw [HV.out, decide_eq_false (by omega)]; rfl)
    have h1' : (64 : Int) < xs.length := by omega
    go_enter Try.func34, Try.ntmps34
    go_wp2_with fail
    go_ret
    exact ⟨by rw [HVF.out]; rfl, hbo⟩
  have h1' : ¬ (64 : Int) < xs.length := by omega
  have HV1 := Lib.hid (show V = if srt (xs.map fun x => x.1.nm) && (fst xs).all val then 0 else 8 by rw [HV.out, decide_eq_true (by omega)]; rfl)
  clear HV h1
  go_enter Try.func34, Try.ntmps34
  go_wp2_with fail
  generalize w.alloc _ = wo at hbo HX ⊢
  go_loopw [3] (fun i wr => ∃ k : Nat, k ≤ xs.length ∧ i = .int .i64 k ∧ Hid (∀ i, i < k → val (gp xs i).1 = true ∧ ordM xs i = true) ∧ Hid (Below wo.heap.size wo wr)) (fun i _ => xs.length - (intOf i).toNat)
  case atStart => exact ⟨0, by omega, rfl, fun i hi => by omega, Below.refl _ _⟩
  case round =>
    obtain ⟨k, hk, rfl, HG, HB⟩ := hrel
    have hbw := bt hbo HB.out (Nat.le_refl _)
    have x0 := cell_of (blk_keep HX.out HB.out) 0 _ rfl
    by_cases hlt : k < xs.length
    · have k0 : (0 : Int) ≤ k := by omega
      have k1 : (k : Int) < xs.length := by omega
      have HPREV := Lib.hid (show 0 < k → ∃ b off, a = some ⟨b, off, none⟩ ∧ wr.cell? ⟨b, off + (k - 1) * 5, none⟩ = some (.string (gp xs (k - 1)).1.nm) from fun h => by
        obtain ⟨b, off, ha, q, _⟩ := at_p (HA.out.below hbw).ms (k - 1) (by omega)
        exact ⟨b, off, ha, q⟩)
      obtain ⟨b, off, rfl, q0, q1, q2, q3, q4⟩ := at_p (HA.out.below hbw).ms k hlt
      have HRI := Lib.hid (fun wx (h : Below w.heap.size w wx) => right_any (gp xs k) wx (HZ.out _ (gp_mem xs k hlt)) ((HA.out.below h).ac _ (gp_mem xs k hlt)))
      have HOR := Lib.hid (show ordM xs k = (decide (k = 0) || lt (gp xs (k - 1)).1.nm (gp xs k).1.nm) from rfl)
      have HBAD1 := Lib.hid (show val (gp xs k).1 = false → V = 8 from fun h => by rw [HV1.out, not_all_val hlt h]; simp)
      have HBAD2 := Lib.hid (show ordM xs k = false → V = 8 from fun h => by rw [HV1.out, ordM_bad hlt h]; simp)
      have HGS := Lib.hid (show val (gp xs k).1 = true → ordM xs k = true → ∀ i, i < k + 1 → val (gp xs i).1 = true ∧ ordM xs i = true from fun h1 h2 i hi => by
        rcases Nat.eq_or_lt_of_le (show i ≤ k by omega) with e | e
        · rw [e]; exact ⟨h1, h2⟩
        · exact HG.out i e)
      obtain ⟨O, hO⟩ : ∃ O, O = ordM xs k := ⟨_, rfl⟩
      obtain ⟨K, hK⟩ : ∃ K, K = val (gp xs k).1 := ⟨_, rfl⟩
      rw [← hO] at HOR HBAD2 HGS
      rw [← hK] at HRI HBAD1 HGS
      generalize gp xs k = y at q0 q1 q2 q3 q4 HRI HOR
      generalize gp xs (k - 1) = z at HPREV HOR
      clear hO hK HG
      have HK := Lib.hid (show ∀ wx, Below wr.heap.size wr wx → wx.cell? ⟨w.heap.size, 0, none⟩ = some (.slice (some ⟨b, off, none⟩) xs.length c) ∧ wx.cell? ⟨b, off + k * 5, none⟩ = some (.string y.1.nm) ∧ wx.cell? ⟨b, off + k * 5 + 1, none⟩ = some (.int .u8 y.1.ro) ∧ wx.cell? ⟨b, off + k * 5 + 2, none⟩ = some (.bool y.1.su) ∧ wx.cell? ⟨b, off + k * 5 + 3, none⟩ = some (.int .i64 y.1.lim) ∧ wx.cell? ⟨b, off + k * 5 + 4, none⟩ = some (.slice y.2.1 y.1.ac.length y.2.2) from fun wx h => ⟨keep x0 h, keep q0 h, keep q1 h, keep q2 h, keep q3 h, keep q4 h⟩)
      have j0 : Below wr.heap.size wr wr := Below.refl _ _
      have jd := j0.drew
      clear x0 q0 q1 q2 q3 q4
      have x0 := (HK.out wr j0).1
      by_cases hk0 : 0 < k
      case pos =>
        obtain ⟨b', off', e', zq⟩ := HPREV.out hk0
        cases e'
        have HKP := Lib.hid (show ∀ wx, Below wr.heap.size wr wx → wx.cell? ⟨w.heap.size, 0, none⟩ = some (.slice (some ⟨b, off, none⟩) xs.length c) ∧ (wx.cell? ⟨b, off + k * 5, none⟩ = some (.string y.1.nm) ∧ wx.cell? ⟨b, off + k * 5 + 1, none⟩ = some (.int .u8 y.1.ro) ∧ wx.cell? ⟨b, off + k * 5 + 2, none⟩ = some (.bool y.1.su) ∧ wx.cell? ⟨b, off + k * 5 + 3, none⟩ = some (.int .i64 y.1.lim) ∧ wx.cell? ⟨b, off + k * 5 + 4, none⟩ = some (.slice y.2.1 y.1.ac.length y.2.2)) ∧ wx.cell? ⟨b, off + (k - 1) * 5, none⟩ = some (.string z.1.nm) from fun wx h => ⟨(HK.out wx h).1, (HK.out wx h).2, keep zq h⟩)
        have hk1 : (0 : Int) < (k : Int) := by omega
        have hk2 : (1 : Int) ≤ (k : Int) := by omega
        have hk3 : (0 : Int) ≤ (k : Int) - 1 := by omega
        have hk4 : (k : Int) - 1 < (xs.length : Int) := by omega
        have hk5 : IntKind.i64.wrap ((k : Int) - 1) = (k : Int) - 1 := IntWalk.i64_in _ (by omega)
        have hk6 : ((k : Int) - 1).toNat = k - 1 := by omega
        have hkd : decide (0 < k) = true := decide_eq_true hk0
        have hk7 : (k : Int) ≤ (xs.length : Int) := by omega
        have hO : O = lt z.1.nm y.1.nm := by rw [HOR.out, decide_eq_false (by omega)]; rfl
        have HO := Lib.hid hO
        obtain ⟨s, hs⟩ : ∃ s, s = lt z.1.nm y.1.nm := ⟨_, rfl⟩
        have hs1 : Op.bytesLess z.1.nm.toList y.1.nm.toList = s := hs.symm
        have HS := Lib.hid hs
        clear hO hs zq HPREV
        go_wp2_with fail
        cases K
        case false =>
          have HVF := Lib.hid (HBAD1.out rfl)
          refine wp_region_noPanic ?_
          refine wp_region_held_drew (S := fun wx => wx.cell? ⟨w.heap.size, 0, none⟩ = some (.slice (some ⟨b, off, none⟩) xs.length c) ∧ wx.cell? ⟨b, off + k * 5, none⟩ = some (.string y.1.nm) ∧ wx.cell? ⟨b, off + k * 5 + 1, none⟩ = some (.int .u8 y.1.ro) ∧ wx.cell? ⟨b, off + k * 5 + 2, none⟩ = some (.bool y.1.su) ∧ wx.cell? ⟨b, off + k * 5 + 3, none⟩ = some (.int .i64 y.1.lim) ∧ wx.cell? ⟨b, off + k * 5 + 4, none⟩ = some (.slice y.2.1 y.1.ac.length y.2.2)) (by kernel_rfl) (HK.out _ jd) (fun hHeld => ?_)
          refine wpAnyH_take (i := 0) (v := ?vx1) rfl (by kernel_rfl) (by kernel_rfl) (by kernel_rfl) (fun _ _ _ h => h) (Or.inl ⟨by rfl, ?hx1⟩) (by assumption) ?_
          case hx1 =>
            intro wq hSw
            try dsimp only at hSw
            go_simp
            try with_reducible rfl
          change wpAnyH _ _ _ _ _ _ _ (Act.put _ (some 15) _) _
          try simp only [Act.put]
          try simp only [List.setIfInBounds_toArray]
          try simp only [List.set_cons_succ]
          try simp only [List.set_cons_zero]
          refine wpAnyH_take (i := 1) (v := ?vx2) rfl (by kernel_rfl) (by kernel_rfl) (by kernel_rfl) (fun _ _ _ h => h) (Or.inl ⟨by rfl, ?hx2⟩) (by assumption) ?_
          case hx2 =>
            intro wq hSw
            try dsimp only at hSw
            go_simp
            try with_reducible rfl
          change wpAnyH _ _ _ _ _ _ _ (Act.put _ (some 16) _) _
          try simp only [Act.put]
          try simp only [List.setIfInBounds_toArray]
          try simp only [List.set_cons_succ]
          try simp only [List.set_cons_zero]
          refine wpAnyH_take (i := 2) (v := ?vx3) rfl (by kernel_rfl) (by kernel_rfl) (by kernel_rfl) (fun _ _ _ h => h) (Or.inl ⟨by rfl, ?hx3⟩) (by assumption) ?_
          case hx3 =>
            intro wq hSw
            try dsimp only at hSw
            go_simp
            try with_reducible rfl
          change wpAnyH _ _ _ _ _ _ _ (Act.put _ (some 17) _) _
          try simp only [Act.put]
          try simp only [List.setIfInBounds_toArray]
          try simp only [List.set_cons_succ]
          try simp only [List.set_cons_zero]
          refine wpAnyH_take (i := 3) (v := ?vx4) rfl (by kernel_rfl) (by kernel_rfl) (by kernel_rfl) (fun _ _ _ h => h) (Or.inl ⟨by rfl, ?hx4⟩) (by assumption) ?_
          case hx4 =>
            intro wq hSw
            try dsimp only at hSw
            go_simp
            try with_reducible rfl
          change wpAnyH _ _ _ _ _ _ _ (Act.put _ (some 18) _) _
          try simp only [Act.put]
          try simp only [List.setIfInBounds_toArray]
          try simp only [List.set_cons_succ]
          try simp only [List.set_cons_zero]
          refine wpAnyH_take (i := 4) (v := ?vx5) rfl (by kernel_rfl) (by kernel_rfl) (by kernel_rfl) (fun _ _ _ h => h) (Or.inl ⟨by rfl, ?hx5⟩) (by assumption) ?_
          case hx5 =>
            intro wq hSw
            try dsimp only at hSw
            go_simp
            try with_reducible rfl
          change wpAnyH _ _ _ _ _ _ _ (Act.put _ (some 19) _) _
          try simp only [Act.put]
          try simp only [List.setIfInBounds_toArray]
          try simp only [List.set_cons_succ]
          try simp only [List.set_cons_zero]
          refine wpAnyH_ready (rs := [5]) (by kernel_rfl) (by simp) ?_
          refine AllReadyH.cons rfl (fun K hK => ?_) AllReadyH.nil
          go_simp
          go_at_call 74
          refine (HRI.out wr.drew hbw.drew).mono ?_
          rintro e w5 ⟨rfl, hb5⟩
          have j3 : Below wr.heap.size wr w5 := bt jd hb5 (Nat.le_refl _)
          try go_simp
          refine hK.out _ _ (HK.out _ j3) (fun hHeld => ?_)
          clear hK K
          try simp only [Act.put]
          try simp only [List.setIfInBounds_toArray]
          try simp only [List.set_cons_succ]
          try simp only [List.set_cons_zero]
          refine wpAnyH_take (i := 6) (v := ?vx6) rfl (by kernel_rfl) (by kernel_rfl) (by kernel_rfl) (fun _ _ _ h => h) (Or.inl ⟨by rfl, ?hx6⟩) (by assumption) ?_
          case hx6 =>
            intro wq hSw
            try dsimp only at hSw
            go_simp
            try with_reducible rfl
          change wpAnyH _ _ _ _ _ _ _ (Act.put _ (some 21) _) _
          try simp only [Act.put]
          try simp only [List.setIfInBounds_toArray]
          try simp only [List.set_cons_succ]
          try simp only [List.set_cons_zero]
          refine wpAnyH_take (i := 7) (v := ?vx7) rfl (by kernel_rfl) (by kernel_rfl) (by kernel_rfl) (fun _ _ _ h => h) (Or.inl ⟨by rfl, ?hx7⟩) (by assumption) ?_
          case hx7 =>
            intro wq hSw
            try dsimp only at hSw
            go_simp
            try with_reducible rfl
          change wpAnyH _ _ _ _ _ _ _ (Act.put _ (some 22) _) _
          try simp only [Act.put]
          try simp only [List.setIfInBounds_toArray]
          try simp only [List.set_cons_succ]
          try simp only [List.set_cons_zero]
          refine wpAnyH_take (i := 8) (v := undef) rfl (by kernel_rfl) (by kernel_rfl) (by kernel_rfl) (fun _ _ _ h => h) (Or.inr ⟨by rfl, rfl⟩) (by assumption) ?_
          change wpAnyH _ _ _ _ _ _ _ (Act.put _ (some 23) _) _
          try simp only [Act.put]
          try simp only [List.setIfInBounds_toArray]
          try simp only [List.set_cons_succ]
          try simp only [List.set_cons_zero]
          refine wpAnyH_take (i := 9) (v := undef) rfl (by kernel_rfl) (by kernel_rfl) (by kernel_rfl) (fun _ _ _ h => h) (Or.inr ⟨by rfl, rfl⟩) (by assumption) ?_
          change wpAnyH _ _ _ _ _ _ _ (Act.put _ (some 24) _) _
          try simp only [Act.put]
          try simp only [List.setIfInBounds_toArray]
          try simp only [List.set_cons_succ]
          try simp only [List.set_cons_zero]
          refine wpAnyH_take (i := 10) (v := undef) rfl (by kernel_rfl) (by kernel_rfl) (by kernel_rfl) (fun _ _ _ h => h) (Or.inr ⟨by rfl, rfl⟩) (by assumption) ?_
          change wpAnyH _ _ _ _ _ _ _ (Act.put _ (some 25) _) _
          try simp only [Act.put]
          try simp only [List.setIfInBounds_toArray]
          try simp only [List.set_cons_succ]
          try simp only [List.set_cons_zero]
          refine wpAnyH_take (i := 11) (v := undef) rfl (by kernel_rfl) (by kernel_rfl) (by kernel_rfl) (fun _ _ _ h => h) (Or.inr ⟨by rfl, rfl⟩) (by assumption) ?_
          change wpAnyH _ _ _ _ _ _ _ (Act.put _ (some 26) _) _
          try simp only [Act.put]
          try simp only [List.setIfInBounds_toArray]
          try simp only [List.set_cons_succ]
          try simp only [List.set_cons_zero]
          refine wpAnyH_take (i := 12) (v := undef) rfl (by kernel_rfl) (by kernel_rfl) (by kernel_rfl) (fun _ _ _ h => h) (Or.inr ⟨by rfl, rfl⟩) (by assumption) ?_
          change wpAnyH _ _ _ _ _ _ _ (Act.put _ (some 27) _) _
          try simp only [Act.put]
          try simp only [List.setIfInBounds_toArray]
          try simp only [List.set_cons_succ]
          try simp only [List.set_cons_zero]
          refine wpAnyH_take (i := 13) (v := undef) rfl (by kernel_rfl) (by kernel_rfl) (by kernel_rfl) (fun _ _ _ h => h) (Or.inr ⟨by rfl, rfl⟩) (by assumption) ?_
          change wpAnyH _ _ _ _ _ _ _ (Act.put _ (some 28) _) _
          try simp only [Act.put]
          try simp only [List.setIfInBounds_toArray]
          try simp only [List.set_cons_succ]
          try simp only [List.set_cons_zero]
          refine wpAnyH_take (i := 14) (v := undef) rfl (by kernel_rfl) (by kernel_rfl) (by kernel_rfl) (fun _ _ _ h => h) (Or.inr ⟨by rfl, rfl⟩) (by assumption) ?_
          change wpAnyH _ _ _ _ _ _ _ (Act.put _ (some 29) _) _
          try simp only [Act.put]
          try simp only [List.setIfInBounds_toArray]
          try simp only [List.set_cons_succ]
          try simp only [List.set_cons_zero]
          refine wpAnyH_take (i := 15) (v := undef) rfl (by kernel_rfl) (by kernel_rfl) (by kernel_rfl) (fun _ _ _ h => h) (Or.inr ⟨by rfl, rfl⟩) (by assumption) ?_
          change wpAnyH _ _ _ _ _ _ _ (Act.put _ (some 30) _) _
          try simp only [Act.put]
          try simp only [List.setIfInBounds_toArray]
          try simp only [List.set_cons_succ]
          try simp only [List.set_cons_zero]
          refine wpAnyH_take (i := 16) (v := undef) rfl (by kernel_rfl) (by kernel_rfl) (by kernel_rfl) (fun _ _ _ h => h) (Or.inr ⟨by rfl, rfl⟩) (by assumption) ?_
          change wpAnyH _ _ _ _ _ _ _ (Act.put _ (some 31) _) _
          try simp only [Act.put]
          try simp only [List.setIfInBounds_toArray]
          try simp only [List.set_cons_succ]
          try simp only [List.set_cons_zero]
          refine wpAnyH_take (i := 17) (v := undef) rfl (by kernel_rfl) (by kernel_rfl) (by kernel_rfl) (fun _ _ _ h => h) (Or.inr ⟨by rfl, rfl⟩) (by assumption) ?_
          change wpAnyH _ _ _ _ _ _ _ (Act.put _ (some 32) _) _
          try simp only [Act.put]
          try simp only [List.setIfInBounds_toArray]
          try simp only [List.set_cons_succ]
          try simp only [List.set_cons_zero]
          refine wpAnyH_take (i := 18) (v := undef) rfl (by kernel_rfl) (by kernel_rfl) (by kernel_rfl) (fun _ _ _ h => h) (Or.inr ⟨by rfl, rfl⟩) (by assumption) ?_
          change wpAnyH _ _ _ _ _ _ _ (Act.put _ (some 33) _) _
          try simp only [Act.put]
          try simp only [List.setIfInBounds_toArray]
          try simp only [List.set_cons_succ]
          try simp only [List.set_cons_zero]
          refine wpAnyH_take (i := 19) (v := undef) rfl (by kernel_rfl) (by kernel_rfl) (by kernel_rfl) (fun _ _ _ h => h) (Or.inr ⟨by rfl, rfl⟩) (by assumption) ?_
          change wpAnyH _ _ _ _ _ _ _ (Act.put _ (some 34) _) _
          try simp only [Act.put]
          try simp only [List.setIfInBounds_toArray]
          try simp only [List.set_cons_succ]
          try simp only [List.set_cons_zero]
          refine wpAnyH_take (i := 20) (v := undef) rfl (by kernel_rfl) (by kernel_rfl) (by kernel_rfl) (fun _ _ _ h => h) (Or.inr ⟨by rfl, rfl⟩) (by assumption) ?_
          change wpAnyH _ _ _ _ _ _ _ (Act.put _ (some 35) _) _
          try simp only [Act.put]
          try simp only [List.setIfInBounds_toArray]
          try simp only [List.set_cons_succ]
          try simp only [List.set_cons_zero]
          refine wpAnyH_take (i := 21) (v := undef) rfl (by kernel_rfl) (by kernel_rfl) (by kernel_rfl) (fun _ _ _ h => h) (Or.inr ⟨by rfl, rfl⟩) (by assumption) ?_
          change wpAnyH _ _ _ _ _ _ _ (Act.put _ (some 36) _) _
          try simp only [Act.put]
          try simp only [List.setIfInBounds_toArray]
          try simp only [List.set_cons_succ]
          try simp only [List.set_cons_zero]
          refine wpAnyH_take (i := 22) (v := undef) rfl (by kernel_rfl) (by kernel_rfl) (by kernel_rfl) (fun _ _ _ h => h) (Or.inr ⟨by rfl, rfl⟩) (by assumption) ?_
          change wpAnyH _ _ _ _ _ _ _ (Act.put _ (some 37) _) _
          try simp only [Act.put]
          try simp only [List.setIfInBounds_toArray]
          try simp only [List.set_cons_succ]
          try simp only [List.set_cons_zero]
          refine wpAnyH_take (i := 23) (v := undef) rfl (by kernel_rfl) (by kernel_rfl) (by kernel_rfl) (fun _ _ _ h => h) (Or.inr ⟨by rfl, rfl⟩) (by assumption) ?_
          change wpAnyH _ _ _ _ _ _ _ (Act.put _ (some 38) _) _
          try simp only [Act.put]
          try simp only [List.setIfInBounds_toArray]
          try simp only [List.set_cons_succ]
          try simp only [List.set_cons_zero]
          refine wpAnyH_take (i := 24) (v := undef) rfl (by kernel_rfl) (by kernel_rfl) (by kernel_rfl) (fun _ _ _ h => h) (Or.inr ⟨by rfl, rfl⟩) (by assumption) ?_
          change wpAnyH _ _ _ _ _ _ _ (Act.put _ (some 39) _) _
          try simp only [Act.put]
          try simp only [List.setIfInBounds_toArray]
          try simp only [List.set_cons_succ]
          try simp only [List.set_cons_zero]
          refine wpAnyH_take (i := 25) (v := undef) rfl (by kernel_rfl) (by kernel_rfl) (by kernel_rfl) (fun _ _ _ h => h) (Or.inr ⟨by rfl, rfl⟩) (by assumption) ?_
          change wpAnyH _ _ _ _ _ _ _ (Act.put _ (some 40) _) _
          try simp only [Act.put]
          try simp only [List.setIfInBounds_toArray]
          try simp only [List.set_cons_succ]
          try simp only [List.set_cons_zero]
          refine wpAnyH_take (i := 26) (v := ?vx26) rfl (by kernel_rfl) (by kernel_rfl) (by kernel_rfl) (fun _ _ _ h => h) (Or.inl ⟨by rfl, ?hx26⟩) (by assumption) ?_
          case hx26 =>
            intro wq hSw
            try dsimp only at hSw
            go_simp
            try with_reducible rfl
          change wpAnyH _ _ _ _ _ _ _ (Act.put _ (some 41) _) _
          try simp only [Act.put]
          try simp only [List.setIfInBounds_toArray]
          try simp only [List.set_cons_succ]
          try simp only [List.set_cons_zero]
          refine wpAnyH_done (by kernel_rfl) ?_ _
          refine NoPanic.normal ?_
          all_goals
            go_wp2
            go_ret
            exact ⟨ret_int HVF.out.symm, bt hbw j3 (Nat.le_refl _)⟩
        case true =>
          cases s
          case false =>
            have HVF := Lib.hid (HBAD2.out (by rw [HO.out, ← HS.out]))
            go_region_held3 (fun wx => wx.cell? ⟨w.heap.size, 0, none⟩ = some (.slice (some ⟨b, off, none⟩) xs.length c) ∧ (wx.cell? ⟨b, off + k * 5, none⟩ = some (.string y.1.nm) ∧ wx.cell? ⟨b, off + k * 5 + 1, none⟩ = some (.int .u8 y.1.ro) ∧ wx.cell? ⟨b, off + k * 5 + 2, none⟩ = some (.bool y.1.su) ∧ wx.cell? ⟨b, off + k * 5 + 3, none⟩ = some (.int .i64 y.1.lim) ∧ wx.cell? ⟨b, off + k * 5 + 4, none⟩ = some (.slice y.2.1 y.1.ac.length y.2.2)) ∧ wx.cell? ⟨b, off + (k - 1) * 5, none⟩ = some (.string z.1.nm))
              (first | with_reducible exact HKP.out _ j3 | with_reducible exact HKP.out _ jd)
              ((go_at_call 74; refine (HRI.out wr.drew hbw.drew).mono ?_; rintro e w5 ⟨rfl, hb5⟩; have j3 : Below wr.heap.size wr w5 := bt jd hb5 (Nat.le_refl _)))
            all_goals
              go_wp2
              go_ret
              exact ⟨ret_int HVF.out.symm, bt hbw j3 (Nat.le_refl _)⟩
          case true =>
            have HG2 := Lib.hid (HGS.out rfl (by rw [HO.out, ← HS.out]))
            go_region_held3 (fun wx => wx.cell? ⟨w.heap.size, 0, none⟩ = some (.slice (some ⟨b, off, none⟩) xs.length c) ∧ (wx.cell? ⟨b, off + k * 5, none⟩ = some (.string y.1.nm) ∧ wx.cell? ⟨b, off + k * 5 + 1, none⟩ = some (.int .u8 y.1.ro) ∧ wx.cell? ⟨b, off + k * 5 + 2, none⟩ = some (.bool y.1.su) ∧ wx.cell? ⟨b, off + k * 5 + 3, none⟩ = some (.int .i64 y.1.lim) ∧ wx.cell? ⟨b, off + k * 5 + 4, none⟩ = some (.slice y.2.1 y.1.ac.length y.2.2)) ∧ wx.cell? ⟨b, off + (k - 1) * 5, none⟩ = some (.string z.1.nm))
              (first | with_reducible exact HKP.out _ j3 | with_reducible exact HKP.out _ jd)
              ((go_at_call 74; refine (HRI.out wr.drew hbw.drew).mono ?_; rintro e w5 ⟨rfl, hb5⟩; have j3 : Below wr.heap.size wr w5 := bt jd hb5 (Nat.le_refl _)))
            all_goals
              go_wp2
              go_roundw
              case rel => exact ⟨k + 1, by omega, by go_num, HG2, bt HB.out j3 (Nat.le_refl _)⟩
              case measure => simp [intOf]; omega
      case neg =>
        have hkn : ¬ (0 : Int) < (k : Int) := by omega
        have hkd : decide (0 < k) = false := decide_eq_false hk0
        have HOT := Lib.hid (show O = true by rw [HOR.out, decide_eq_true (by omega)]; rfl)
        clear HPREV
        go_wp2_with fail
        cases K
        case false =>
          have HVF := Lib.hid (HBAD1.out rfl)
          refine wp_region_noPanic ?_
          refine wp_region_held_drew (S := fun wx => wx.cell? ⟨w.heap.size, 0, none⟩ = some (.slice (some ⟨b, off, none⟩) xs.length c) ∧ wx.cell? ⟨b, off + k * 5, none⟩ = some (.string y.1.nm) ∧ wx.cell? ⟨b, off + k * 5 + 1, none⟩ = some (.int .u8 y.1.ro) ∧ wx.cell? ⟨b, off + k * 5 + 2, none⟩ = some (.bool y.1.su) ∧ wx.cell? ⟨b, off + k * 5 + 3, none⟩ = some (.int .i64 y.1.lim) ∧ wx.cell? ⟨b, off + k * 5 + 4, none⟩ = some (.slice y.2.1 y.1.ac.length y.2.2)) (by kernel_rfl) (HK.out _ jd) (fun hHeld => ?_)
          refine wpAnyH_take (i := 0) (v := ?vx27) rfl (by kernel_rfl) (by kernel_rfl) (by kernel_rfl) (fun _ _ _ h => h) (Or.inl ⟨by rfl, ?hx27⟩) (by assumption) ?_
          case hx27 =>
            intro wq hSw
            try dsimp only at hSw
            go_simp
            try with_reducible rfl
          change wpAnyH _ _ _ _ _ _ _ (Act.put _ (some 15) _) _
          try simp only [Act.put]
          try simp only [List.setIfInBounds_toArray]
          try simp only [List.set_cons_succ]
          try simp only [List.set_cons_zero]
          refine wpAnyH_take (i := 1) (v := ?vx28) rfl (by kernel_rfl) (by kernel_rfl) (by kernel_rfl) (fun _ _ _ h => h) (Or.inl ⟨by rfl, ?hx28⟩) (by assumption) ?_
          case hx28 =>
            intro wq hSw
            try dsimp only at hSw
            go_simp
            try with_reducible rfl
          change wpAnyH _ _ _ _ _ _ _ (Act.put _ (some 16) _) _
          try simp only [Act.put]
          try simp only [List.setIfInBounds_toArray]
          try simp only [List.set_cons_succ]
          try simp only [List.set_cons_zero]
          refine wpAnyH_take (i := 2) (v := ?vx29) rfl (by kernel_rfl) (by kernel_rfl) (by kernel_rfl) (fun _ _ _ h => h) (Or.inl ⟨by rfl, ?hx29⟩) (by assumption) ?_
          case hx29 =>
            intro wq hSw
            try dsimp only at hSw
            go_simp
            try with_reducible rfl
          change wpAnyH _ _ _ _ _ _ _ (Act.put _ (some 17) _) _
          try simp only [Act.put]
          try simp only [List.setIfInBounds_toArray]
          try simp only [List.set_cons_succ]
          try simp only [List.set_cons_zero]
          refine wpAnyH_take (i := 3) (v := ?vx30) rfl (by kernel_rfl) (by kernel_rfl) (by kernel_rfl) (fun _ _ _ h => h) (Or.inl ⟨by rfl, ?hx30⟩) (by assumption) ?_
          case hx30 =>
            intro wq hSw
            try dsimp only at hSw
            go_simp
            try with_reducible rfl
          change wpAnyH _ _ _ _ _ _ _ (Act.put _ (some 18) _) _
          try simp only [Act.put]
          try simp only [List.setIfInBounds_toArray]
          try simp only [List.set_cons_succ]
          try simp only [List.set_cons_zero]
          refine wpAnyH_take (i := 4) (v := ?vx31) rfl (by kernel_rfl) (by kernel_rfl) (by kernel_rfl) (fun _ _ _ h => h) (Or.inl ⟨by rfl, ?hx31⟩) (by assumption) ?_
          case hx31 =>
            intro wq hSw
            try dsimp only at hSw
            go_simp
            try with_reducible rfl
          change wpAnyH _ _ _ _ _ _ _ (Act.put _ (some 19) _) _
          try simp only [Act.put]
          try simp only [List.setIfInBounds_toArray]
          try simp only [List.set_cons_succ]
          try simp only [List.set_cons_zero]
          refine wpAnyH_ready (rs := [5]) (by kernel_rfl) (by simp) ?_
          refine AllReadyH.cons rfl (fun K hK => ?_) AllReadyH.nil
          go_simp
          go_at_call 74
          refine (HRI.out wr.drew hbw.drew).mono ?_
          rintro e w5 ⟨rfl, hb5⟩
          have j3 : Below wr.heap.size wr w5 := bt jd hb5 (Nat.le_refl _)
          try go_simp
          refine hK.out _ _ (HK.out _ j3) (fun hHeld => ?_)
          clear hK K
          try simp only [Act.put]
          try simp only [List.setIfInBounds_toArray]
          try simp only [List.set_cons_succ]
          try simp only [List.set_cons_zero]
          refine wpAnyH_take (i := 6) (v := ?vx32) rfl (by kernel_rfl) (by kernel_rfl) (by kernel_rfl) (fun _ _ _ h => h) (Or.inl ⟨by rfl, ?hx32⟩) (by assumption) ?_
          case hx32 =>
            intro wq hSw
            try dsimp only at hSw
            go_simp
            try with_reducible rfl
          change wpAnyH _ _ _ _ _ _ _ (Act.put _ (some 21) _) _
          try simp only [Act.put]
          try simp only [List.setIfInBounds_toArray]
          try simp only [List.set_cons_succ]
          try simp only [List.set_cons_zero]
          refine wpAnyH_take (i := 7) (v := ?vx33) rfl (by kernel_rfl) (by kernel_rfl) (by kernel_rfl) (fun _ _ _ h => h) (Or.inl ⟨by rfl, ?hx33⟩) (by assumption) ?_
          case hx33 =>
            intro wq hSw
            try dsimp only at hSw
            go_simp
            try with_reducible rfl
          change wpAnyH _ _ _ _ _ _ _ (Act.put _ (some 22) _) _
          try simp only [Act.put]
          try simp only [List.setIfInBounds_toArray]
          try simp only [List.set_cons_succ]
          try simp only [List.set_cons_zero]
          refine wpAnyH_take (i := 8) (v := undef) rfl (by kernel_rfl) (by kernel_rfl) (by kernel_rfl) (fun _ _ _ h => h) (Or.inr ⟨by rfl, rfl⟩) (by assumption) ?_
          change wpAnyH _ _ _ _ _ _ _ (Act.put _ (some 23) _) _
          try simp only [Act.put]
          try simp only [List.setIfInBounds_toArray]
          try simp only [List.set_cons_succ]
          try simp only [List.set_cons_zero]
          refine wpAnyH_take (i := 9) (v := undef) rfl (by kernel_rfl) (by kernel_rfl) (by kernel_rfl) (fun _ _ _ h => h) (Or.inr ⟨by rfl, rfl⟩) (by assumption) ?_
          change wpAnyH _ _ _ _ _ _ _ (Act.put _ (some 24) _) _
          try simp only [Act.put]
          try simp only [List.setIfInBounds_toArray]
          try simp only [List.set_cons_succ]
          try simp only [List.set_cons_zero]
          refine wpAnyH_take (i := 10) (v := undef) rfl (by kernel_rfl) (by kernel_rfl) (by kernel_rfl) (fun _ _ _ h => h) (Or.inr ⟨by rfl, rfl⟩) (by assumption) ?_
          change wpAnyH _ _ _ _ _ _ _ (Act.put _ (some 25) _) _
          try simp only [Act.put]
          try simp only [List.setIfInBounds_toArray]
          try simp only [List.set_cons_succ]
          try simp only [List.set_cons_zero]
          refine wpAnyH_take (i := 11) (v := undef) rfl (by kernel_rfl) (by kernel_rfl) (by kernel_rfl) (fun _ _ _ h => h) (Or.inr ⟨by rfl, rfl⟩) (by assumption) ?_
          change wpAnyH _ _ _ _ _ _ _ (Act.put _ (some 26) _) _
          try simp only [Act.put]
          try simp only [List.setIfInBounds_toArray]
          try simp only [List.set_cons_succ]
          try simp only [List.set_cons_zero]
          refine wpAnyH_take (i := 12) (v := undef) rfl (by kernel_rfl) (by kernel_rfl) (by kernel_rfl) (fun _ _ _ h => h) (Or.inr ⟨by rfl, rfl⟩) (by assumption) ?_
          change wpAnyH _ _ _ _ _ _ _ (Act.put _ (some 27) _) _
          try simp only [Act.put]
          try simp only [List.setIfInBounds_toArray]
          try simp only [List.set_cons_succ]
          try simp only [List.set_cons_zero]
          refine wpAnyH_take (i := 13) (v := undef) rfl (by kernel_rfl) (by kernel_rfl) (by kernel_rfl) (fun _ _ _ h => h) (Or.inr ⟨by rfl, rfl⟩) (by assumption) ?_
          change wpAnyH _ _ _ _ _ _ _ (Act.put _ (some 28) _) _
          try simp only [Act.put]
          try simp only [List.setIfInBounds_toArray]
          try simp only [List.set_cons_succ]
          try simp only [List.set_cons_zero]
          refine wpAnyH_take (i := 14) (v := undef) rfl (by kernel_rfl) (by kernel_rfl) (by kernel_rfl) (fun _ _ _ h => h) (Or.inr ⟨by rfl, rfl⟩) (by assumption) ?_
          change wpAnyH _ _ _ _ _ _ _ (Act.put _ (some 29) _) _
          try simp only [Act.put]
          try simp only [List.setIfInBounds_toArray]
          try simp only [List.set_cons_succ]
          try simp only [List.set_cons_zero]
          refine wpAnyH_take (i := 15) (v := undef) rfl (by kernel_rfl) (by kernel_rfl) (by kernel_rfl) (fun _ _ _ h => h) (Or.inr ⟨by rfl, rfl⟩) (by assumption) ?_
          change wpAnyH _ _ _ _ _ _ _ (Act.put _ (some 30) _) _
          try simp only [Act.put]
          try simp only [List.setIfInBounds_toArray]
          try simp only [List.set_cons_succ]
          try simp only [List.set_cons_zero]
          refine wpAnyH_take (i := 16) (v := undef) rfl (by kernel_rfl) (by kernel_rfl) (by kernel_rfl) (fun _ _ _ h => h) (Or.inr ⟨by rfl, rfl⟩) (by assumption) ?_
          change wpAnyH _ _ _ _ _ _ _ (Act.put _ (some 31) _) _
          try simp only [Act.put]
          try simp only [List.setIfInBounds_toArray]
          try simp only [List.set_cons_succ]
          try simp only [List.set_cons_zero]
          refine wpAnyH_take (i := 17) (v := undef) rfl (by kernel_rfl) (by kernel_rfl) (by kernel_rfl) (fun _ _ _ h => h) (Or.inr ⟨by rfl, rfl⟩) (by assumption) ?_
          change wpAnyH _ _ _ _ _ _ _ (Act.put _ (some 32) _) _
          try simp only [Act.put]
          try simp only [List.setIfInBounds_toArray]
          try simp only [List.set_cons_succ]
          try simp only [List.set_cons_zero]
          refine wpAnyH_take (i := 18) (v := undef) rfl (by kernel_rfl) (by kernel_rfl) (by kernel_rfl) (fun _ _ _ h => h) (Or.inr ⟨by rfl, rfl⟩) (by assumption) ?_
          change wpAnyH _ _ _ _ _ _ _ (Act.put _ (some 33) _) _
          try simp only [Act.put]
          try simp only [List.setIfInBounds_toArray]
          try simp only [List.set_cons_succ]
          try simp only [List.set_cons_zero]
          refine wpAnyH_take (i := 19) (v := undef) rfl (by kernel_rfl) (by kernel_rfl) (by kernel_rfl) (fun _ _ _ h => h) (Or.inr ⟨by rfl, rfl⟩) (by assumption) ?_
          change wpAnyH _ _ _ _ _ _ _ (Act.put _ (some 34) _) _
          try simp only [Act.put]
          try simp only [List.setIfInBounds_toArray]
          try simp only [List.set_cons_succ]
          try simp only [List.set_cons_zero]
          refine wpAnyH_take (i := 20) (v := undef) rfl (by kernel_rfl) (by kernel_rfl) (by kernel_rfl) (fun _ _ _ h => h) (Or.inr ⟨by rfl, rfl⟩) (by assumption) ?_
          change wpAnyH _ _ _ _ _ _ _ (Act.put _ (some 35) _) _
          try simp only [Act.put]
          try simp only [List.setIfInBounds_toArray]
          try simp only [List.set_cons_succ]
          try simp only [List.set_cons_zero]
          refine wpAnyH_take (i := 21) (v := undef) rfl (by kernel_rfl) (by kernel_rfl) (by kernel_rfl) (fun _ _ _ h => h) (Or.inr ⟨by rfl, rfl⟩) (by assumption) ?_
          change wpAnyH _ _ _ _ _ _ _ (Act.put _ (some 36) _) _
          try simp only [Act.put]
          try simp only [List.setIfInBounds_toArray]
          try simp only [List.set_cons_succ]
          try simp only [List.set_cons_zero]
          refine wpAnyH_take (i := 22) (v := undef) rfl (by kernel_rfl) (by kernel_rfl) (by kernel_rfl) (fun _ _ _ h => h) (Or.inr ⟨by rfl, rfl⟩) (by assumption) ?_
          change wpAnyH _ _ _ _ _ _ _ (Act.put _ (some 37) _) _
          try simp only [Act.put]
          try simp only [List.setIfInBounds_toArray]
          try simp only [List.set_cons_succ]
          try simp only [List.set_cons_zero]
          refine wpAnyH_take (i := 23) (v := undef) rfl (by kernel_rfl) (by kernel_rfl) (by kernel_rfl) (fun _ _ _ h => h) (Or.inr ⟨by rfl, rfl⟩) (by assumption) ?_
          change wpAnyH _ _ _ _ _ _ _ (Act.put _ (some 38) _) _
          try simp only [Act.put]
          try simp only [List.setIfInBounds_toArray]
          try simp only [List.set_cons_succ]
          try simp only [List.set_cons_zero]
          refine wpAnyH_take (i := 24) (v := undef) rfl (by kernel_rfl) (by kernel_rfl) (by kernel_rfl) (fun _ _ _ h => h) (Or.inr ⟨by rfl, rfl⟩) (by assumption) ?_
          change wpAnyH _ _ _ _ _ _ _ (Act.put _ (some 39) _) _
          try simp only [Act.put]
          try simp only [List.setIfInBounds_toArray]
          try simp only [List.set_cons_succ]
          try simp only [List.set_cons_zero]
          refine wpAnyH_take (i := 25) (v := undef) rfl (by kernel_rfl) (by kernel_rfl) (by kernel_rfl) (fun _ _ _ h => h) (Or.inr ⟨by rfl, rfl⟩) (by assumption) ?_
          change wpAnyH _ _ _ _ _ _ _ (Act.put _ (some 40) _) _
          try simp only [Act.put]
          try simp only [List.setIfInBounds_toArray]
          try simp only [List.set_cons_succ]
          try simp only [List.set_cons_zero]
          refine wpAnyH_take (i := 26) (v := ?vx52) rfl (by kernel_rfl) (by kernel_rfl) (by kernel_rfl) (fun _ _ _ h => h) (Or.inl ⟨by rfl, ?hx52⟩) (by assumption) ?_
          case hx52 =>
            intro wq hSw
            try dsimp only at hSw
            go_simp
            try with_reducible rfl
          change wpAnyH _ _ _ _ _ _ _ (Act.put _ (some 41) _) _
          try simp only [Act.put]
          try simp only [List.setIfInBounds_toArray]
          try simp only [List.set_cons_succ]
          try simp only [List.set_cons_zero]
          refine wpAnyH_done (by kernel_rfl) ?_ _
          refine NoPanic.normal ?_
          all_goals
            go_wp2
            go_ret
            exact ⟨ret_int HVF.out.symm, bt hbw j3 (Nat.le_refl _)⟩
        case true =>
          have HG2 := Lib.hid (HGS.out rfl HOT.out)
          refine wp_region_noPanic ?_
          refine wp_region_held_drew (S := fun wx => wx.cell? ⟨w.heap.size, 0, none⟩ = some (.slice (some ⟨b, off, none⟩) xs.length c) ∧ wx.cell? ⟨b, off + k * 5, none⟩ = some (.string y.1.nm) ∧ wx.cell? ⟨b, off + k * 5 + 1, none⟩ = some (.int .u8 y.1.ro) ∧ wx.cell? ⟨b, off + k * 5 + 2, none⟩ = some (.bool y.1.su) ∧ wx.cell? ⟨b, off + k * 5 + 3, none⟩ = some (.int .i64 y.1.lim) ∧ wx.cell? ⟨b, off + k * 5 + 4, none⟩ = some (.slice y.2.1 y.1.ac.length y.2.2)) (by kernel_rfl) (HK.out _ jd) (fun hHeld => ?_)
          refine wpAnyH_take (i := 0) (v := ?vx53) rfl (by kernel_rfl) (by kernel_rfl) (by kernel_rfl) (fun _ _ _ h => h) (Or.inl ⟨by rfl, ?hx53⟩) (by assumption) ?_
          case hx53 =>
            intro wq hSw
            try dsimp only at hSw
            go_simp
            try with_reducible rfl
          change wpAnyH _ _ _ _ _ _ _ (Act.put _ (some 15) _) _
          try simp only [Act.put]
          try simp only [List.setIfInBounds_toArray]
          try simp only [List.set_cons_succ]
          try simp only [List.set_cons_zero]
          refine wpAnyH_take (i := 1) (v := ?vx54) rfl (by kernel_rfl) (by kernel_rfl) (by kernel_rfl) (fun _ _ _ h => h) (Or.inl ⟨by rfl, ?hx54⟩) (by assumption) ?_
          case hx54 =>
            intro wq hSw
            try dsimp only at hSw
            go_simp
            try with_reducible rfl
          change wpAnyH _ _ _ _ _ _ _ (Act.put _ (some 16) _) _
          try simp only [Act.put]
          try simp only [List.setIfInBounds_toArray]
          try simp only [List.set_cons_succ]
          try simp only [List.set_cons_zero]
          refine wpAnyH_take (i := 2) (v := ?vx55) rfl (by kernel_rfl) (by kernel_rfl) (by kernel_rfl) (fun _ _ _ h => h) (Or.inl ⟨by rfl, ?hx55⟩) (by assumption) ?_
          case hx55 =>
            intro wq hSw
            try dsimp only at hSw
            go_simp
            try with_reducible rfl
          change wpAnyH _ _ _ _ _ _ _ (Act.put _ (some 17) _) _
          try simp only [Act.put]
          try simp only [List.setIfInBounds_toArray]
          try simp only [List.set_cons_succ]
          try simp only [List.set_cons_zero]
          refine wpAnyH_take (i := 3) (v := ?vx56) rfl (by kernel_rfl) (by kernel_rfl) (by kernel_rfl) (fun _ _ _ h => h) (Or.inl ⟨by rfl, ?hx56⟩) (by assumption) ?_
          case hx56 =>
            intro wq hSw
            try dsimp only at hSw
            go_simp
            try with_reducible rfl
          change wpAnyH _ _ _ _ _ _ _ (Act.put _ (some 18) _) _
          try simp only [Act.put]
          try simp only [List.setIfInBounds_toArray]
          try simp only [List.set_cons_succ]
          try simp only [List.set_cons_zero]
          refine wpAnyH_take (i := 4) (v := ?vx57) rfl (by kernel_rfl) (by kernel_rfl) (by kernel_rfl) (fun _ _ _ h => h) (Or.inl ⟨by rfl, ?hx57⟩) (by assumption) ?_
          case hx57 =>
            intro wq hSw
            try dsimp only at hSw
            go_simp
            try with_reducible rfl
          change wpAnyH _ _ _ _ _ _ _ (Act.put _ (some 19) _) _
          try simp only [Act.put]
          try simp only [List.setIfInBounds_toArray]
          try simp only [List.set_cons_succ]
          try simp only [List.set_cons_zero]
          refine wpAnyH_ready (rs := [5]) (by kernel_rfl) (by simp) ?_
          refine AllReadyH.cons rfl (fun K hK => ?_) AllReadyH.nil
          go_simp
          go_at_call 74
          refine (HRI.out wr.drew hbw.drew).mono ?_
          rintro e w5 ⟨rfl, hb5⟩
          have j3 : Below wr.heap.size wr w5 := bt jd hb5 (Nat.le_refl _)
          try go_simp
          refine hK.out _ _ (HK.out _ j3) (fun hHeld => ?_)
          clear hK K
          try simp only [Act.put]
          try simp only [List.setIfInBounds_toArray]
          try simp only [List.set_cons_succ]
          try simp only [List.set_cons_zero]
          refine wpAnyH_take (i := 6) (v := ?vx58) rfl (by kernel_rfl) (by kernel_rfl) (by kernel_rfl) (fun _ _ _ h => h) (Or.inl ⟨by rfl, ?hx58⟩) (by assumption) ?_
          case hx58 =>
            intro wq hSw
            try dsimp only at hSw
            go_simp
            try with_reducible rfl
          change wpAnyH _ _ _ _ _ _ _ (Act.put _ (some 21) _) _
          try simp only [Act.put]
          try simp only [List.setIfInBounds_toArray]
          try simp only [List.set_cons_succ]
          try simp only [List.set_cons_zero]
          refine wpAnyH_take (i := 7) (v := ?vx59) rfl (by kernel_rfl) (by kernel_rfl) (by kernel_rfl) (fun _ _ _ h => h) (Or.inl ⟨by rfl, ?hx59⟩) (by assumption) ?_
          case hx59 =>
            intro wq hSw
            try dsimp only at hSw
            go_simp
            try with_reducible rfl
          change wpAnyH _ _ _ _ _ _ _ (Act.put _ (some 22) _) _
          try simp only [Act.put]
          try simp only [List.setIfInBounds_toArray]
          try simp only [List.set_cons_succ]
          try simp only [List.set_cons_zero]
          refine wpAnyH_take (i := 8) (v := ?vx60) rfl (by kernel_rfl) (by kernel_rfl) (by kernel_rfl) (fun _ _ _ h => h) (Or.inl ⟨by rfl, ?hx60⟩) (by assumption) ?_
          case hx60 =>
            intro wq hSw
            try dsimp only at hSw
            go_simp
            try with_reducible rfl
          change wpAnyH _ _ _ _ _ _ _ (Act.put _ (some 23) _) _
          try simp only [Act.put]
          try simp only [List.setIfInBounds_toArray]
          try simp only [List.set_cons_succ]
          try simp only [List.set_cons_zero]
          refine wpAnyH_take (i := 9) (v := ?vx61) rfl (by kernel_rfl) (by kernel_rfl) (by kernel_rfl) (fun _ _ _ h => h) (Or.inl ⟨by rfl, ?hx61⟩) (by assumption) ?_
          case hx61 =>
            intro wq hSw
            try dsimp only at hSw
            go_simp
            try with_reducible rfl
          change wpAnyH _ _ _ _ _ _ _ (Act.put _ (some 24) _) _
          try simp only [Act.put]
          try simp only [List.setIfInBounds_toArray]
          try simp only [List.set_cons_succ]
          try simp only [List.set_cons_zero]
          refine wpAnyH_take (i := 10) (v := ?vx62) rfl (by kernel_rfl) (by kernel_rfl) (by kernel_rfl) (fun _ _ _ h => h) (Or.inl ⟨by rfl, ?hx62⟩) (by assumption) ?_
          case hx62 =>
            intro wq hSw
            try dsimp only at hSw
            go_simp
            try with_reducible rfl
          change wpAnyH _ _ _ _ _ _ _ (Act.put _ (some 25) _) _
          try simp only [Act.put]
          try simp only [List.setIfInBounds_toArray]
          try simp only [List.set_cons_succ]
          try simp only [List.set_cons_zero]
          refine wpAnyH_take (i := 11) (v := undef) rfl (by kernel_rfl) (by kernel_rfl) (by kernel_rfl) (fun _ _ _ h => h) (Or.inr ⟨by rfl, rfl⟩) (by assumption) ?_
          change wpAnyH _ _ _ _ _ _ _ (Act.put _ (some 26) _) _
          try simp only [Act.put]
          try simp only [List.setIfInBounds_toArray]
          try simp only [List.set_cons_succ]
          try simp only [List.set_cons_zero]
          refine wpAnyH_take (i := 12) (v := undef) rfl (by kernel_rfl) (by kernel_rfl) (by kernel_rfl) (fun _ _ _ h => h) (Or.inr ⟨by rfl, rfl⟩) (by assumption) ?_
          change wpAnyH _ _ _ _ _ _ _ (Act.put _ (some 27) _) _
          try simp only [Act.put]
          try simp only [List.setIfInBounds_toArray]
          try simp only [List.set_cons_succ]
          try simp only [List.set_cons_zero]
          refine wpAnyH_take (i := 13) (v := undef) rfl (by kernel_rfl) (by kernel_rfl) (by kernel_rfl) (fun _ _ _ h => h) (Or.inr ⟨by rfl, rfl⟩) (by assumption) ?_
          change wpAnyH _ _ _ _ _ _ _ (Act.put _ (some 28) _) _
          try simp only [Act.put]
          try simp only [List.setIfInBounds_toArray]
          try simp only [List.set_cons_succ]
          try simp only [List.set_cons_zero]
          refine wpAnyH_take (i := 14) (v := undef) rfl (by kernel_rfl) (by kernel_rfl) (by kernel_rfl) (fun _ _ _ h => h) (Or.inr ⟨by rfl, rfl⟩) (by assumption) ?_
          change wpAnyH _ _ _ _ _ _ _ (Act.put _ (some 29) _) _
          try simp only [Act.put]
          try simp only [List.setIfInBounds_toArray]
          try simp only [List.set_cons_succ]
          try simp only [List.set_cons_zero]
          refine wpAnyH_take (i := 15) (v := undef) rfl (by kernel_rfl) (by kernel_rfl) (by kernel_rfl) (fun _ _ _ h => h) (Or.inr ⟨by rfl, rfl⟩) (by assumption) ?_
          change wpAnyH _ _ _ _ _ _ _ (Act.put _ (some 30) _) _
          try simp only [Act.put]
          try simp only [List.setIfInBounds_toArray]
          try simp only [List.set_cons_succ]
          try simp only [List.set_cons_zero]
          refine wpAnyH_take (i := 16) (v := undef) rfl (by kernel_rfl) (by kernel_rfl) (by kernel_rfl) (fun _ _ _ h => h) (Or.inr ⟨by rfl, rfl⟩) (by assumption) ?_
          change wpAnyH _ _ _ _ _ _ _ (Act.put _ (some 31) _) _
          try simp only [Act.put]
          try simp only [List.setIfInBounds_toArray]
          try simp only [List.set_cons_succ]
          try simp only [List.set_cons_zero]
          refine wpAnyH_take (i := 17) (v := undef) rfl (by kernel_rfl) (by kernel_rfl) (by kernel_rfl) (fun _ _ _ h => h) (Or.inr ⟨by rfl, rfl⟩) (by assumption) ?_
          change wpAnyH _ _ _ _ _ _ _ (Act.put _ (some 32) _) _
          try simp only [Act.put]
          try simp only [List.setIfInBounds_toArray]
          try simp only [List.set_cons_succ]
          try simp only [List.set_cons_zero]
          refine wpAnyH_take (i := 18) (v := undef) rfl (by kernel_rfl) (by kernel_rfl) (by kernel_rfl) (fun _ _ _ h => h) (Or.inr ⟨by rfl, rfl⟩) (by assumption) ?_
          change wpAnyH _ _ _ _ _ _ _ (Act.put _ (some 33) _) _
          try simp only [Act.put]
          try simp only [List.setIfInBounds_toArray]
          try simp only [List.set_cons_succ]
          try simp only [List.set_cons_zero]
          refine wpAnyH_take (i := 19) (v := undef) rfl (by kernel_rfl) (by kernel_rfl) (by kernel_rfl) (fun _ _ _ h => h) (Or.inr ⟨by rfl, rfl⟩) (by assumption) ?_
          change wpAnyH _ _ _ _ _ _ _ (Act.put _ (some 34) _) _
          try simp only [Act.put]
          try simp only [List.setIfInBounds_toArray]
          try simp only [List.set_cons_succ]
          try simp only [List.set_cons_zero]
          refine wpAnyH_take (i := 20) (v := undef) rfl (by kernel_rfl) (by kernel_rfl) (by kernel_rfl) (fun _ _ _ h => h) (Or.inr ⟨by rfl, rfl⟩) (by assumption) ?_
          change wpAnyH _ _ _ _ _ _ _ (Act.put _ (some 35) _) _
          try simp only [Act.put]
          try simp only [List.setIfInBounds_toArray]
          try simp only [List.set_cons_succ]
          try simp only [List.set_cons_zero]
          refine wpAnyH_take (i := 21) (v := undef) rfl (by kernel_rfl) (by kernel_rfl) (by kernel_rfl) (fun _ _ _ h => h) (Or.inr ⟨by rfl, rfl⟩) (by assumption) ?_
          change wpAnyH _ _ _ _ _ _ _ (Act.put _ (some 36) _) _
          try simp only [Act.put]
          try simp only [List.setIfInBounds_toArray]
          try simp only [List.set_cons_succ]
          try simp only [List.set_cons_zero]
          refine wpAnyH_take (i := 22) (v := undef) rfl (by kernel_rfl) (by kernel_rfl) (by kernel_rfl) (fun _ _ _ h => h) (Or.inr ⟨by rfl, rfl⟩) (by assumption) ?_
          change wpAnyH _ _ _ _ _ _ _ (Act.put _ (some 37) _) _
          try simp only [Act.put]
          try simp only [List.setIfInBounds_toArray]
          try simp only [List.set_cons_succ]
          try simp only [List.set_cons_zero]
          refine wpAnyH_take (i := 23) (v := undef) rfl (by kernel_rfl) (by kernel_rfl) (by kernel_rfl) (fun _ _ _ h => h) (Or.inr ⟨by rfl, rfl⟩) (by assumption) ?_
          change wpAnyH _ _ _ _ _ _ _ (Act.put _ (some 38) _) _
          try simp only [Act.put]
          try simp only [List.setIfInBounds_toArray]
          try simp only [List.set_cons_succ]
          try simp only [List.set_cons_zero]
          refine wpAnyH_take (i := 24) (v := undef) rfl (by kernel_rfl) (by kernel_rfl) (by kernel_rfl) (fun _ _ _ h => h) (Or.inr ⟨by rfl, rfl⟩) (by assumption) ?_
          change wpAnyH _ _ _ _ _ _ _ (Act.put _ (some 39) _) _
          try simp only [Act.put]
          try simp only [List.setIfInBounds_toArray]
          try simp only [List.set_cons_succ]
          try simp only [List.set_cons_zero]
          refine wpAnyH_take (i := 25) (v := ?vx77) rfl (by kernel_rfl) (by kernel_rfl) (by kernel_rfl) (fun _ _ _ h => h) (Or.inl ⟨by rfl, ?hx77⟩) (by assumption) ?_
          case hx77 =>
            intro wq hSw
            try dsimp only at hSw
            go_simp
            try with_reducible rfl
          change wpAnyH _ _ _ _ _ _ _ (Act.put _ (some 40) _) _
          try simp only [Act.put]
          try simp only [List.setIfInBounds_toArray]
          try simp only [List.set_cons_succ]
          try simp only [List.set_cons_zero]
          refine wpAnyH_take (i := 26) (v := ?vx78) rfl (by kernel_rfl) (by kernel_rfl) (by kernel_rfl) (fun _ _ _ h => h) (Or.inl ⟨by rfl, ?hx78⟩) (by assumption) ?_
          case hx78 =>
            intro wq hSw
            try dsimp only at hSw
            go_simp
            try with_reducible rfl
          change wpAnyH _ _ _ _ _ _ _ (Act.put _ (some 41) _) _
          try simp only [Act.put]
          try simp only [List.setIfInBounds_toArray]
          try simp only [List.set_cons_succ]
          try simp only [List.set_cons_zero]
          refine wpAnyH_done (by kernel_rfl) ?_ _
          refine NoPanic.normal ?_
          all_goals
            go_wp2
            go_roundw
            case rel => exact ⟨k + 1, by omega, by go_num, HG2, bt HB.out j3 (Nat.le_refl _)⟩
            case measure => simp [intOf]; omega
    · obtain rfl : k = xs.length := by omega
      have k1 : ¬ (xs.length : Int) < xs.length := by omega
      have HVF := Lib.hid (show V = 0 by rw [HV1.out, ordM_all (fun i hi => (HG.out i hi).2), all_val (fun i hi => (HG.out i hi).1)]; rfl)
      go_wp2_with fail
      go_ret
      exact ⟨ret_int HVF.out.symm, hbw⟩
end Go.Proofs.Ytoemjpfoddeinaa.Mb
