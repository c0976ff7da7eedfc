/-
  The reference: the walk of Dates where there are dates.
-/
import Derived.Test.YtainmmdlbajpnaaScT
namespace Go.Proofs.Ytainmmdlbajpnaa.Sc
open Go.RowKit Go.Proofs.Ytainmmdlbajpnaa Go.Proofs.Ytainmmdlbajpnaa.Ls Go.Proofs.Ytainmmdlbajpnaa.Kb
open Go.Proofs.Ytainmmdlbajpnaa.Dt hiding ret_bool ret_int

set_option maxRecDepth 100000 in
set_option maxHeartbeats 4000000 in
theorem rdates_yes (s : Sch) (y m d : Int) (N : Nat) (w : World) (hS : SchAt w s) (hY : DYes s y m d N) (hN : N ≤ 100) (hk : kn s y m d N + 2 ≤ 100) :
    Calls Try.prog 17 #[.agg s.cells] w fun e w' => ∃ ra rc, e = .returned (.tuple #[.slice ra (kn s y m d N + 2) rc, .int .i64 0]) ∧ OwnL w' w.heap.size 3 1 ic (.slice ra (kn s y m d N + 2) rc) (dL s y m d (kn s y m d N)) ∧ Below w.heap.size w w' := by
  have HS := Lib.hid hS
  have HV := Lib.hid (fun (w' : World) (h : SchAt w' s) => rsch_any s w' h)
  rw [hY.ok] at HV
  have HRG := Lib.hid (fun w => regular_ref s y m d N w hY)
  have hr : regN N = N := by unfold regN; rw [if_pos hN]
  rw [hr] at HRG
  have HSB := Lib.hid (fun w => stub_ref s y m d N w hY hN)
  have HK := Lib.hid (show kn s y m d N = kept (stubB y m d s.step s.last s.other N) (decide (s.stub = 1)) N from rfl)
  generalize stubB y m d s.step s.last s.other N = b at HSB HK
  obtain ⟨g0, g1, g2, g3, g4, g5, g6, g7⟩ := sch_facts hY.ok
  have hf : s.from ≤ 99999 := by
    unfold Sch.from
    split <;> omega
  have hkN := kn_le s y m d N
  have HST := Lib.hid (fun (k : Nat) (w : World) (h : k ≤ 4000) => step_any s y m d k w hY.dt hf ⟨g4, g5⟩ h)
  have HL := Lib.hid (dl_len s y m d (kn s y m d N))
  have H0 := Lib.hid (dl_zero s y m d (kn s y m d N))
  have HE := Lib.hid (dl_last s y m d (kn s y m d N))
  have HM := Lib.hid (dl_mid s y m d (kn s y m d N))
  generalize dL s y m d (kn s y m d N) = L at HL H0 HE HM ⊢
  generalize kn s y m d N = n at HK hk HL H0 HE HM hkN ⊢
  have HVK : Hid (vk y m d s.step s.last = vk y m d s.step s.last) := rfl
  generalize vk y m d s.step s.last = V at HST HM
  generalize inB s y m d = B at HST
  clear HVK g0 hf
  clear hS hY hr
  obtain ⟨S, E, Mo, back, last, stub, roll, wk, a, c, hs⟩ := s
  simp only [Sch.cells] at *
  have hbo : Below w.heap.size w (w.alloc (.cells #[.int .i64 S, .int .i64 E, .int .i64 Mo, .bool back, .bool last, .int .u8 stub, .int .u8 roll, .int .u8 wk, .slice a hs.length c] 26)) := (Below.refl _ _).alloc (Nat.le_refl _) _
  have hx := blk_new w (.cells #[.int .i64 S, .int .i64 E, .int .i64 Mo, .bool back, .bool last, .int .u8 stub, .int .u8 roll, .int .u8 wk, .slice a hs.length c] 26)
  go_enter Try.func17, Try.ntmps17
  go_wp2_with fail
  generalize w.alloc _ = wo at hx hbo ⊢
  refine (HV.out wo (HS.out.below hbo)).mono ?_
  rintro e w1 ⟨rfl, hb1⟩
  have c1 := bt hbo hb1 (Nat.le_refl _)
  have hx := blk_keep hx hb1
  have x0 := cell_of hx 0 _ rfl
  have x1 := cell_of hx 1 _ rfl
  have x2 := cell_of hx 2 _ rfl
  have x3 := cell_of hx 3 _ rfl
  have x4 := cell_of hx 4 _ rfl
  have x5 := cell_of hx 5 _ rfl
  have x6 := cell_of hx 6 _ rfl
  have x7 := cell_of hx 7 _ rfl
  have x8 := cell_of hx 8 _ rfl
  go_wp2_with fail
  refine Calls.mono (HRG.out w1) ?_
  rintro e w2 ⟨rfl, hb2⟩
  have c2 := bt c1 hb2 (Nat.le_refl _)
  have hx := blk_keep hx hb2
  clear x0 x1 x2 x3 x4 x5 x6 x7 x8 hb1 hb2 hbo
  have x0 := cell_of hx 0 _ rfl
  have x1 := cell_of hx 1 _ rfl
  have x2 := cell_of hx 2 _ rfl
  have x3 := cell_of hx 3 _ rfl
  have x4 := cell_of hx 4 _ rfl
  have x5 := cell_of hx 5 _ rfl
  have x6 := cell_of hx 6 _ rfl
  have x7 := cell_of hx 7 _ rfl
  have x8 := cell_of hx 8 _ rfl
  rcases (show 0 < N ∨ N = 0 by omega) with h0 | h0
  · have h0' : (0 : Int) < N := by omega
    by_cases hs1 : stub = 1
    · subst hs1
      go_wp2_with fail
      refine Calls.mono (HSB.out w2) ?_
      rintro e w3 ⟨rfl, hb3⟩
      have c3 := bt c2 hb3 (Nat.le_refl _)
      have hx := blk_keep hx hb3
      clear x0 x1 x2 x3 x4 x5 x6 x7 x8 hb3
      have x0 := cell_of hx 0 _ rfl
      have x1 := cell_of hx 1 _ rfl
      have x2 := cell_of hx 2 _ rfl
      have x3 := cell_of hx 3 _ rfl
      have x4 := cell_of hx 4 _ rfl
      have x5 := cell_of hx 5 _ rfl
      have x6 := cell_of hx 6 _ rfl
      have x7 := cell_of hx 7 _ rfl
      have x8 := cell_of hx 8 _ rfl
      clear c2
      cases b
      · have hn : n = N := by
          rw [HK.out]
          rfl
        subst hn
        clear HK
        have hlt3 : w.heap.size < w3.heap.size := blk_lt hx
        go_wp2_with fail
        have HX3 := Lib.hid (blk_past w3 (.cells #[.int .i64 S] 3) hx)
        have j1 := blk_new w3 (.cells #[.int .i64 S] 3)
        have HO3 : Hid (OwnL (w3.alloc (.cells #[.int .i64 S] 3)) w3.heap.size 3 1 ic (.slice (some ⟨w3.heap.size, 0, none⟩) 1 1) (L.take 1)) := by
          have e : L.take 1 = [S] := by
            rw [take_getD L 0 (by rw [HL.out]; omega), H0.out]
            rfl
          rw [e]
          exact ⟨rfl, .inr ⟨_, 1, _, rfl, Nat.le_refl _, j1, Nat.le_refl _, by unfold maxLen; omega, rfl, rfl⟩⟩
        have c4 : Below w.heap.size w (w3.alloc (.cells #[.int .i64 S] 3)) := c3.alloc (by omega) _
        have hs4 : w3.heap.size ≤ (w3.alloc (.cells #[.int .i64 S] 3)).heap.size := by rw [World.size_alloc]; omega
        generalize w3.alloc _ = w4 at j1 HX3 HO3 c4 hs4 ⊢
        clear j1 hx x0 x1 x2 x3 x4 x5 x6 x7 x8
        generalize w3.heap.size = base at HO3 hlt3 hs4 ⊢
        go_loopw [5, 6, 7, 8] (fun v i _ _ wr => ∃ (k : Nat) (va : Option Addr) (vc : Nat), 1 ≤ k ∧ k ≤ n + 1 ∧ i = .int .i64 k ∧ v = .slice va k vc ∧ Hid (OwnL wr base 3 1 ic (.slice va k vc) (L.take k)) ∧ Below w.heap.size w wr ∧ Hid (wr.heap[w.heap.size]? = some (.cells #[.int .i64 S, .int .i64 E, .int .i64 Mo, .bool back, .bool last, .int .u8 1, .int .u8 roll, .int .u8 wk, .slice a hs.length c] 26 (0, 0))) ∧ base ≤ wr.heap.size) (fun _ i _ _ _ => n + 1 - (intOf i).toNat)
        case atStart => exact ⟨1, _, _, by omega, by omega, rfl, rfl, HO3, c4, HX3, hs4⟩
        case round =>
          clear HO3 c4 HX3 hs4
          obtain ⟨k, va, vc, hk1, hk2, rfl, rfl, HO, hbw, HX, hbs⟩ := hrel
          have hx := HX.out
          have x0 := cell_of hx 0 _ rfl
          have x1 := cell_of hx 1 _ rfl
          have x2 := cell_of hx 2 _ rfl
          have x3 := cell_of hx 3 _ rfl
          have x4 := cell_of hx 4 _ rfl
          have x5 := cell_of hx 5 _ rfl
          have x6 := cell_of hx 6 _ rfl
          have x7 := cell_of hx 7 _ rfl
          have x8 := cell_of hx 8 _ rfl
          have hlk : (L.take k).length = k := by rw [List.length_take, HL.out]; omega
          rcases Nat.lt_or_ge k (n + 1) with hlt | hge
          · have hki : (k : Int) ≤ n := by omega
            have HTK := Lib.hid (take_getD L k (by rw [HL.out]; omega))
            have hmid := HM.out k hk1 (by omega)
            go_wp2_with fail
            refine Calls.mono (HST.out k wr (by omega)) ?_
            rintro e w5 ⟨rfl, hb5⟩
            have c5 := bt hbw hb5 (Nat.le_refl _)
            have HO5 := Lib.hid (HO.out.below hb5)
            have HX5 := Lib.hid (blk_keep HX.out hb5)
            have hs5 := Nat.le_trans hbs hb5.size
            clear hx x0 x1 x2 x3 x4 x5 x6 x7 x8 hb5 HO HX hbs hbw
            cases back
            · have hv : V k = L.getD k 0 := hmid.symm
              clear hmid
              have hx := HX5.out
              have x0 := cell_of hx 0 _ rfl
              have x1 := cell_of hx 1 _ rfl
              have x2 := cell_of hx 2 _ rfl
              have x3 := cell_of hx 3 _ rfl
              have x4 := cell_of hx 4 _ rfl
              have x5 := cell_of hx 5 _ rfl
              have x6 := cell_of hx 6 _ rfl
              have x7 := cell_of hx 7 _ rfl
              have x8 := cell_of hx 8 _ rfl
              clear hx
              rw [hv]
              clear hv
              generalize L.getD k 0 = D at HTK ⊢
              go_wp2_with (at_builtin; refine wpList_append_L (w := w5.alloc (.cells #[.int .i64 D] 3)) (P := Try.prog) (α := Int) rfl _ _ _ rfl 3 (.int .i64 0) 1 8 Try.underlying22 infoI' rfl (by decide) base ic (.slice va k vc) (L.take k) D w5.heap.size #[.int .i64 D] rfl rfl (HO5.out.below ((Below.refl _ _).alloc (Nat.le_refl _) _)) (blk_new w5 _) rfl rfl (ic_one D) (by rw [hlk]; unfold maxLen; omega) (by rw [hlk]; omega) (by rw [World.size_alloc]; omega) ?_; intro g cap w7 ho7 hg7 _)
              have hOa := HO5.out.below ((Below.refl _ _).alloc (Nat.le_refl _) (.cells #[.int .i64 D] 3))
              have HX7 := Lib.hid (far_own hOa hg7 (blk_past _ _ HX5.out) hlt3)
              have c7 : Below w.heap.size w w7 := (c5.alloc (by omega) (.cells #[.int .i64 D] 3)).grown hg7 (by rw [World.size_alloc]; omega) (fun j hj => by have := (hOa.lt j hj).1; omega)
              have hs7 : base ≤ w7.heap.size := by have := hg7.size; rw [World.size_alloc] at this; omega
              rw [← HTK.out, hlk] at ho7
              go_roundw
              case rel => exact ⟨k + 1, some ⟨g, 0, none⟩, cap, by omega, by omega, by go_num, rfl, ho7, c7, HX7, hs7⟩
              case measure => simp [intOf]; omega
            · have hv : V (n + 1 - k) = L.getD k 0 := hmid.symm
              clear hmid
              have hx := HX5.out
              have x0 := cell_of hx 0 _ rfl
              have x1 := cell_of hx 1 _ rfl
              have x2 := cell_of hx 2 _ rfl
              have x3 := cell_of hx 3 _ rfl
              have x4 := cell_of hx 4 _ rfl
              have x5 := cell_of hx 5 _ rfl
              have x6 := cell_of hx 6 _ rfl
              have x7 := cell_of hx 7 _ rfl
              have x8 := cell_of hx 8 _ rfl
              clear hx
              have hkc : ((n + 1 - k : Nat) : Int) = (n : Int) + 1 - k := by omega
              have HS2 := Lib.hid (HST.out (n + 1 - k) w5 (by omega))
              rw [hkc] at HS2
              go_wp2_with fail
              refine Calls.mono HS2.out ?_
              rintro e w6 ⟨rfl, hb6⟩
              have c6 := bt c5 hb6 (Nat.le_refl _)
              have HO6 := Lib.hid (HO5.out.below hb6)
              have HX6 := Lib.hid (blk_keep HX5.out hb6)
              have hs6 := Nat.le_trans hs5 hb6.size
              clear hb6 HO5 HX5 hs5 c5 hkc x0 x1 x2 x3 x4 x5 x6 x7 x8
              rw [hv]
              clear hv
              generalize L.getD k 0 = D at HTK ⊢
              have hclr := trivial
              go_wp2_with (at_builtin; refine wpList_append_L (w := w6.alloc (.cells #[.int .i64 D] 3)) (P := Try.prog) (α := Int) rfl _ _ _ rfl 3 (.int .i64 0) 1 8 Try.underlying22 infoI' rfl (by decide) base ic (.slice va k vc) (L.take k) D w6.heap.size #[.int .i64 D] rfl rfl (HO6.out.below ((Below.refl _ _).alloc (Nat.le_refl _) _)) (blk_new w6 _) rfl rfl (ic_one D) (by rw [hlk]; unfold maxLen; omega) (by rw [hlk]; omega) (by rw [World.size_alloc]; omega) ?_; intro g cap w7 ho7 hg7 _)
              have hOa := HO6.out.below ((Below.refl _ _).alloc (Nat.le_refl _) (.cells #[.int .i64 D] 3))
              have HX7 := Lib.hid (far_own hOa hg7 (blk_past _ _ HX6.out) hlt3)
              have c7 : Below w.heap.size w w7 := (c6.alloc (by omega) (.cells #[.int .i64 D] 3)).grown hg7 (by rw [World.size_alloc]; omega) (fun j hj => by have := (hOa.lt j hj).1; omega)
              have hs7 : base ≤ w7.heap.size := by have := hg7.size; rw [World.size_alloc] at this; omega
              rw [← HTK.out, hlk] at ho7
              go_roundw
              case rel => exact ⟨k + 1, some ⟨g, 0, none⟩, cap, by omega, by omega, by go_num, rfl, ho7, c7, HX7, hs7⟩
              case measure => simp [intOf]; omega
          · obtain rfl : k = n + 1 := by omega
            have HTK := Lib.hid (take_getD L (n + 1) (by rw [HL.out]; omega))
            rw [HE.out] at HTK
            have HTL : Hid (L.take (n + 1 + 1) = L) := List.take_of_length_le (by rw [HL.out]; omega)
            go_wp2_with (at_builtin; refine wpList_append_L (w := wr.alloc (.cells #[.int .i64 E] 3)) (P := Try.prog) (α := Int) rfl _ _ _ rfl 3 (.int .i64 0) 1 8 Try.underlying22 infoI' rfl (by decide) base ic (.slice va (n + 1) vc) (L.take (n + 1)) E wr.heap.size #[.int .i64 E] rfl rfl (HO.out.below ((Below.refl _ _).alloc (Nat.le_refl _) _)) (blk_new wr _) rfl rfl (ic_one E) (by rw [hlk]; unfold maxLen; omega) (by rw [hlk]; omega) (by rw [World.size_alloc]; omega) ?_; intro g cap w7 ho7 hg7 _)
            have hOa := HO.out.below ((Below.refl _ _).alloc (Nat.le_refl _) (.cells #[.int .i64 E] 3))
            have c7 : Below w.heap.size w w7 := (hbw.alloc (by omega) (.cells #[.int .i64 E] 3)).grown hg7 (by rw [World.size_alloc]; omega) (fun j hj => by have := (hOa.lt j hj).1; omega)
            rw [← HTK.out, hlk, HTL.out] at ho7
            go_ret2
            exact ⟨some ⟨g, 0, none⟩, cap, rfl, OwnL.lower' ho7 (by omega), c7⟩
      · have hn : n = N - 1 := by
          rw [HK.out]
          unfold kept
          rw [if_pos (by simp [h0])]
        obtain rfl : N = n + 1 := by omega
        clear hn HK
        have hlt3 : w.heap.size < w3.heap.size := blk_lt hx
        go_wp2_with fail
        have HX3 := Lib.hid (blk_past w3 (.cells #[.int .i64 S] 3) hx)
        have j1 := blk_new w3 (.cells #[.int .i64 S] 3)
        have HO3 : Hid (OwnL (w3.alloc (.cells #[.int .i64 S] 3)) w3.heap.size 3 1 ic (.slice (some ⟨w3.heap.size, 0, none⟩) 1 1) (L.take 1)) := by
          have e : L.take 1 = [S] := by
            rw [take_getD L 0 (by rw [HL.out]; omega), H0.out]
            rfl
          rw [e]
          exact ⟨rfl, .inr ⟨_, 1, _, rfl, Nat.le_refl _, j1, Nat.le_refl _, by unfold maxLen; omega, rfl, rfl⟩⟩
        have c4 : Below w.heap.size w (w3.alloc (.cells #[.int .i64 S] 3)) := c3.alloc (by omega) _
        have hs4 : w3.heap.size ≤ (w3.alloc (.cells #[.int .i64 S] 3)).heap.size := by rw [World.size_alloc]; omega
        generalize w3.alloc _ = w4 at j1 HX3 HO3 c4 hs4 ⊢
        clear j1 hx x0 x1 x2 x3 x4 x5 x6 x7 x8
        generalize w3.heap.size = base at HO3 hlt3 hs4 ⊢
        go_loopw [5, 6, 7, 8] (fun v i _ _ wr => ∃ (k : Nat) (va : Option Addr) (vc : Nat), 1 ≤ k ∧ k ≤ n + 1 ∧ i = .int .i64 k ∧ v = .slice va k vc ∧ Hid (OwnL wr base 3 1 ic (.slice va k vc) (L.take k)) ∧ Below w.heap.size w wr ∧ Hid (wr.heap[w.heap.size]? = some (.cells #[.int .i64 S, .int .i64 E, .int .i64 Mo, .bool back, .bool last, .int .u8 1, .int .u8 roll, .int .u8 wk, .slice a hs.length c] 26 (0, 0))) ∧ base ≤ wr.heap.size) (fun _ i _ _ _ => n + 1 - (intOf i).toNat)
        case atStart => exact ⟨1, _, _, by omega, by omega, rfl, rfl, HO3, c4, HX3, hs4⟩
        case round =>
          clear HO3 c4 HX3 hs4
          obtain ⟨k, va, vc, hk1, hk2, rfl, rfl, HO, hbw, HX, hbs⟩ := hrel
          have hx := HX.out
          have x0 := cell_of hx 0 _ rfl
          have x1 := cell_of hx 1 _ rfl
          have x2 := cell_of hx 2 _ rfl
          have x3 := cell_of hx 3 _ rfl
          have x4 := cell_of hx 4 _ rfl
          have x5 := cell_of hx 5 _ rfl
          have x6 := cell_of hx 6 _ rfl
          have x7 := cell_of hx 7 _ rfl
          have x8 := cell_of hx 8 _ rfl
          have hlk : (L.take k).length = k := by rw [List.length_take, HL.out]; omega
          rcases Nat.lt_or_ge k (n + 1) with hlt | hge
          · have hki : (k : Int) ≤ n := by omega
            have HTK := Lib.hid (take_getD L k (by rw [HL.out]; omega))
            have hmid := HM.out k hk1 (by omega)
            go_wp2_with fail
            refine Calls.mono (HST.out k wr (by omega)) ?_
            rintro e w5 ⟨rfl, hb5⟩
            have c5 := bt hbw hb5 (Nat.le_refl _)
            have HO5 := Lib.hid (HO.out.below hb5)
            have HX5 := Lib.hid (blk_keep HX.out hb5)
            have hs5 := Nat.le_trans hbs hb5.size
            clear hx x0 x1 x2 x3 x4 x5 x6 x7 x8 hb5 HO HX hbs hbw
            cases back
            · have hv : V k = L.getD k 0 := hmid.symm
              clear hmid
              have hx := HX5.out
              have x0 := cell_of hx 0 _ rfl
              have x1 := cell_of hx 1 _ rfl
              have x2 := cell_of hx 2 _ rfl
              have x3 := cell_of hx 3 _ rfl
              have x4 := cell_of hx 4 _ rfl
              have x5 := cell_of hx 5 _ rfl
              have x6 := cell_of hx 6 _ rfl
              have x7 := cell_of hx 7 _ rfl
              have x8 := cell_of hx 8 _ rfl
              clear hx
              rw [hv]
              clear hv
              generalize L.getD k 0 = D at HTK ⊢
              go_wp2_with (at_builtin; refine wpList_append_L (w := w5.alloc (.cells #[.int .i64 D] 3)) (P := Try.prog) (α := Int) rfl _ _ _ rfl 3 (.int .i64 0) 1 8 Try.underlying22 infoI' rfl (by decide) base ic (.slice va k vc) (L.take k) D w5.heap.size #[.int .i64 D] rfl rfl (HO5.out.below ((Below.refl _ _).alloc (Nat.le_refl _) _)) (blk_new w5 _) rfl rfl (ic_one D) (by rw [hlk]; unfold maxLen; omega) (by rw [hlk]; omega) (by rw [World.size_alloc]; omega) ?_; intro g cap w7 ho7 hg7 _)
              have hOa := HO5.out.below ((Below.refl _ _).alloc (Nat.le_refl _) (.cells #[.int .i64 D] 3))
              have HX7 := Lib.hid (far_own hOa hg7 (blk_past _ _ HX5.out) hlt3)
              have c7 : Below w.heap.size w w7 := (c5.alloc (by omega) (.cells #[.int .i64 D] 3)).grown hg7 (by rw [World.size_alloc]; omega) (fun j hj => by have := (hOa.lt j hj).1; omega)
              have hs7 : base ≤ w7.heap.size := by have := hg7.size; rw [World.size_alloc] at this; omega
              rw [← HTK.out, hlk] at ho7
              go_roundw
              case rel => exact ⟨k + 1, some ⟨g, 0, none⟩, cap, by omega, by omega, by go_num, rfl, ho7, c7, HX7, hs7⟩
              case measure => simp [intOf]; omega
            · have hv : V (n + 1 - k) = L.getD k 0 := hmid.symm
              clear hmid
              have hx := HX5.out
              have x0 := cell_of hx 0 _ rfl
              have x1 := cell_of hx 1 _ rfl
              have x2 := cell_of hx 2 _ rfl
              have x3 := cell_of hx 3 _ rfl
              have x4 := cell_of hx 4 _ rfl
              have x5 := cell_of hx 5 _ rfl
              have x6 := cell_of hx 6 _ rfl
              have x7 := cell_of hx 7 _ rfl
              have x8 := cell_of hx 8 _ rfl
              clear hx
              have hkc : ((n + 1 - k : Nat) : Int) = (n : Int) + 1 - k := by omega
              have HS2 := Lib.hid (HST.out (n + 1 - k) w5 (by omega))
              rw [hkc] at HS2
              go_wp2_with fail
              refine Calls.mono HS2.out ?_
              rintro e w6 ⟨rfl, hb6⟩
              have c6 := bt c5 hb6 (Nat.le_refl _)
              have HO6 := Lib.hid (HO5.out.below hb6)
              have HX6 := Lib.hid (blk_keep HX5.out hb6)
              have hs6 := Nat.le_trans hs5 hb6.size
              clear hb6 HO5 HX5 hs5 c5 hkc x0 x1 x2 x3 x4 x5 x6 x7 x8
              rw [hv]
              clear hv
              generalize L.getD k 0 = D at HTK ⊢
              have hclr := trivial
              go_wp2_with (at_builtin; refine wpList_append_L (w := w6.alloc (.cells #[.int .i64 D] 3)) (P := Try.prog) (α := Int) rfl _ _ _ rfl 3 (.int .i64 0) 1 8 Try.underlying22 infoI' rfl (by decide) base ic (.slice va k vc) (L.take k) D w6.heap.size #[.int .i64 D] rfl rfl (HO6.out.below ((Below.refl _ _).alloc (Nat.le_refl _) _)) (blk_new w6 _) rfl rfl (ic_one D) (by rw [hlk]; unfold maxLen; omega) (by rw [hlk]; omega) (by rw [World.size_alloc]; omega) ?_; intro g cap w7 ho7 hg7 _)
              have hOa := HO6.out.below ((Below.refl _ _).alloc (Nat.le_refl _) (.cells #[.int .i64 D] 3))
              have HX7 := Lib.hid (far_own hOa hg7 (blk_past _ _ HX6.out) hlt3)
              have c7 : Below w.heap.size w w7 := (c6.alloc (by omega) (.cells #[.int .i64 D] 3)).grown hg7 (by rw [World.size_alloc]; omega) (fun j hj => by have := (hOa.lt j hj).1; omega)
              have hs7 : base ≤ w7.heap.size := by have := hg7.size; rw [World.size_alloc] at this; omega
              rw [← HTK.out, hlk] at ho7
              go_roundw
              case rel => exact ⟨k + 1, some ⟨g, 0, none⟩, cap, by omega, by omega, by go_num, rfl, ho7, c7, HX7, hs7⟩
              case measure => simp [intOf]; omega
          · obtain rfl : k = n + 1 := by omega
            have HTK := Lib.hid (take_getD L (n + 1) (by rw [HL.out]; omega))
            rw [HE.out] at HTK
            have HTL : Hid (L.take (n + 1 + 1) = L) := List.take_of_length_le (by rw [HL.out]; omega)
            go_wp2_with (at_builtin; refine wpList_append_L (w := wr.alloc (.cells #[.int .i64 E] 3)) (P := Try.prog) (α := Int) rfl _ _ _ rfl 3 (.int .i64 0) 1 8 Try.underlying22 infoI' rfl (by decide) base ic (.slice va (n + 1) vc) (L.take (n + 1)) E wr.heap.size #[.int .i64 E] rfl rfl (HO.out.below ((Below.refl _ _).alloc (Nat.le_refl _) _)) (blk_new wr _) rfl rfl (ic_one E) (by rw [hlk]; unfold maxLen; omega) (by rw [hlk]; omega) (by rw [World.size_alloc]; omega) ?_; intro g cap w7 ho7 hg7 _)
            have hOa := HO.out.below ((Below.refl _ _).alloc (Nat.le_refl _) (.cells #[.int .i64 E] 3))
            have c7 : Below w.heap.size w w7 := (hbw.alloc (by omega) (.cells #[.int .i64 E] 3)).grown hg7 (by rw [World.size_alloc]; omega) (fun j hj => by have := (hOa.lt j hj).1; omega)
            rw [← HTK.out, hlk, HTL.out] at ho7
            go_ret2
            exact ⟨some ⟨g, 0, none⟩, cap, rfl, OwnL.lower' ho7 (by omega), c7⟩
    · have hn : n = N := by
        rw [HK.out]
        unfold kept
        rw [if_neg (by simp [hs1])]
      subst hn
      clear HK
      have hlt3 : w.heap.size < w2.heap.size := blk_lt hx
      go_wp2_with fail
      have HX3 := Lib.hid (blk_past w2 (.cells #[.int .i64 S] 3) hx)
      have j1 := blk_new w2 (.cells #[.int .i64 S] 3)
      have HO3 : Hid (OwnL (w2.alloc (.cells #[.int .i64 S] 3)) w2.heap.size 3 1 ic (.slice (some ⟨w2.heap.size, 0, none⟩) 1 1) (L.take 1)) := by
        have e : L.take 1 = [S] := by
          rw [take_getD L 0 (by rw [HL.out]; omega), H0.out]
          rfl
        rw [e]
        exact ⟨rfl, .inr ⟨_, 1, _, rfl, Nat.le_refl _, j1, Nat.le_refl _, by unfold maxLen; omega, rfl, rfl⟩⟩
      have c4 : Below w.heap.size w (w2.alloc (.cells #[.int .i64 S] 3)) := c2.alloc (by omega) _
      have hs4 : w2.heap.size ≤ (w2.alloc (.cells #[.int .i64 S] 3)).heap.size := by rw [World.size_alloc]; omega
      generalize w2.alloc _ = w4 at j1 HX3 HO3 c4 hs4 ⊢
      clear j1 hx x0 x1 x2 x3 x4 x5 x6 x7 x8
      generalize w2.heap.size = base at HO3 hlt3 hs4 ⊢
      go_loopw [5, 6, 7, 8] (fun v i _ _ wr => ∃ (k : Nat) (va : Option Addr) (vc : Nat), 1 ≤ k ∧ k ≤ n + 1 ∧ i = .int .i64 k ∧ v = .slice va k vc ∧ Hid (OwnL wr base 3 1 ic (.slice va k vc) (L.take k)) ∧ Below w.heap.size w wr ∧ Hid (wr.heap[w.heap.size]? = some (.cells #[.int .i64 S, .int .i64 E, .int .i64 Mo, .bool back, .bool last, .int .u8 stub, .int .u8 roll, .int .u8 wk, .slice a hs.length c] 26 (0, 0))) ∧ base ≤ wr.heap.size) (fun _ i _ _ _ => n + 1 - (intOf i).toNat)
      case atStart => exact ⟨1, _, _, by omega, by omega, rfl, rfl, HO3, c4, HX3, hs4⟩
      case round =>
        clear HO3 c4 HX3 hs4
        obtain ⟨k, va, vc, hk1, hk2, rfl, rfl, HO, hbw, HX, hbs⟩ := hrel
        have hx := HX.out
        have x0 := cell_of hx 0 _ rfl
        have x1 := cell_of hx 1 _ rfl
        have x2 := cell_of hx 2 _ rfl
        have x3 := cell_of hx 3 _ rfl
        have x4 := cell_of hx 4 _ rfl
        have x5 := cell_of hx 5 _ rfl
        have x6 := cell_of hx 6 _ rfl
        have x7 := cell_of hx 7 _ rfl
        have x8 := cell_of hx 8 _ rfl
        have hlk : (L.take k).length = k := by rw [List.length_take, HL.out]; omega
        rcases Nat.lt_or_ge k (n + 1) with hlt | hge
        · have hki : (k : Int) ≤ n := by omega
          have HTK := Lib.hid (take_getD L k (by rw [HL.out]; omega))
          have hmid := HM.out k hk1 (by omega)
          go_wp2_with fail
          refine Calls.mono (HST.out k wr (by omega)) ?_
          rintro e w5 ⟨rfl, hb5⟩
          have c5 := bt hbw hb5 (Nat.le_refl _)
          have HO5 := Lib.hid (HO.out.below hb5)
          have HX5 := Lib.hid (blk_keep HX.out hb5)
          have hs5 := Nat.le_trans hbs hb5.size
          clear hx x0 x1 x2 x3 x4 x5 x6 x7 x8 hb5 HO HX hbs hbw
          cases back
          · have hv : V k = L.getD k 0 := hmid.symm
            clear hmid
            have hx := HX5.out
            have x0 := cell_of hx 0 _ rfl
            have x1 := cell_of hx 1 _ rfl
            have x2 := cell_of hx 2 _ rfl
            have x3 := cell_of hx 3 _ rfl
            have x4 := cell_of hx 4 _ rfl
            have x5 := cell_of hx 5 _ rfl
            have x6 := cell_of hx 6 _ rfl
            have x7 := cell_of hx 7 _ rfl
            have x8 := cell_of hx 8 _ rfl
            clear hx
            rw [hv]
            clear hv
            generalize L.getD k 0 = D at HTK ⊢
            go_wp2_with (at_builtin; refine wpList_append_L (w := w5.alloc (.cells #[.int .i64 D] 3)) (P := Try.prog) (α := Int) rfl _ _ _ rfl 3 (.int .i64 0) 1 8 Try.underlying22 infoI' rfl (by decide) base ic (.slice va k vc) (L.take k) D w5.heap.size #[.int .i64 D] rfl rfl (HO5.out.below ((Below.refl _ _).alloc (Nat.le_refl _) _)) (blk_new w5 _) rfl rfl (ic_one D) (by rw [hlk]; unfold maxLen; omega) (by rw [hlk]; omega) (by rw [World.size_alloc]; omega) ?_; intro g cap w7 ho7 hg7 _)
            have hOa := HO5.out.below ((Below.refl _ _).alloc (Nat.le_refl _) (.cells #[.int .i64 D] 3))
            have HX7 := Lib.hid (far_own hOa hg7 (blk_past _ _ HX5.out) hlt3)
            have c7 : Below w.heap.size w w7 := (c5.alloc (by omega) (.cells #[.int .i64 D] 3)).grown hg7 (by rw [World.size_alloc]; omega) (fun j hj => by have := (hOa.lt j hj).1; omega)
            have hs7 : base ≤ w7.heap.size := by have := hg7.size; rw [World.size_alloc] at this; omega
            rw [← HTK.out, hlk] at ho7
            go_roundw
            case rel => exact ⟨k + 1, some ⟨g, 0, none⟩, cap, by omega, by omega, by go_num, rfl, ho7, c7, HX7, hs7⟩
            case measure => simp [intOf]; omega
          · have hv : V (n + 1 - k) = L.getD k 0 := hmid.symm
            clear hmid
            have hx := HX5.out
            have x0 := cell_of hx 0 _ rfl
            have x1 := cell_of hx 1 _ rfl
            have x2 := cell_of hx 2 _ rfl
            have x3 := cell_of hx 3 _ rfl
            have x4 := cell_of hx 4 _ rfl
            have x5 := cell_of hx 5 _ rfl
            have x6 := cell_of hx 6 _ rfl
            have x7 := cell_of hx 7 _ rfl
            have x8 := cell_of hx 8 _ rfl
            clear hx
            have hkc : ((n + 1 - k : Nat) : Int) = (n : Int) + 1 - k := by omega
            have HS2 := Lib.hid (HST.out (n + 1 - k) w5 (by omega))
            rw [hkc] at HS2
            go_wp2_with fail
            refine Calls.mono HS2.out ?_
            rintro e w6 ⟨rfl, hb6⟩
            have c6 := bt c5 hb6 (Nat.le_refl _)
            have HO6 := Lib.hid (HO5.out.below hb6)
            have HX6 := Lib.hid (blk_keep HX5.out hb6)
            have hs6 := Nat.le_trans hs5 hb6.size
            clear hb6 HO5 HX5 hs5 c5 hkc x0 x1 x2 x3 x4 x5 x6 x7 x8
            rw [hv]
            clear hv
            generalize L.getD k 0 = D at HTK ⊢
            have hclr := trivial
            go_wp2_with (at_builtin; refine wpList_append_L (w := w6.alloc (.cells #[.int .i64 D] 3)) (P := Try.prog) (α := Int) rfl _ _ _ rfl 3 (.int .i64 0) 1 8 Try.underlying22 infoI' rfl (by decide) base ic (.slice va k vc) (L.take k) D w6.heap.size #[.int .i64 D] rfl rfl (HO6.out.below ((Below.refl _ _).alloc (Nat.le_refl _) _)) (blk_new w6 _) rfl rfl (ic_one D) (by rw [hlk]; unfold maxLen; omega) (by rw [hlk]; omega) (by rw [World.size_alloc]; omega) ?_; intro g cap w7 ho7 hg7 _)
            have hOa := HO6.out.below ((Below.refl _ _).alloc (Nat.le_refl _) (.cells #[.int .i64 D] 3))
            have HX7 := Lib.hid (far_own hOa hg7 (blk_past _ _ HX6.out) hlt3)
            have c7 : Below w.heap.size w w7 := (c6.alloc (by omega) (.cells #[.int .i64 D] 3)).grown hg7 (by rw [World.size_alloc]; omega) (fun j hj => by have := (hOa.lt j hj).1; omega)
            have hs7 : base ≤ w7.heap.size := by have := hg7.size; rw [World.size_alloc] at this; omega
            rw [← HTK.out, hlk] at ho7
            go_roundw
            case rel => exact ⟨k + 1, some ⟨g, 0, none⟩, cap, by omega, by omega, by go_num, rfl, ho7, c7, HX7, hs7⟩
            case measure => simp [intOf]; omega
        · obtain rfl : k = n + 1 := by omega
          have HTK := Lib.hid (take_getD L (n + 1) (by rw [HL.out]; omega))
          rw [HE.out] at HTK
          have HTL : Hid (L.take (n + 1 + 1) = L) := List.take_of_length_le (by rw [HL.out]; omega)
          go_wp2_with (at_builtin; refine wpList_append_L (w := wr.alloc (.cells #[.int .i64 E] 3)) (P := Try.prog) (α := Int) rfl _ _ _ rfl 3 (.int .i64 0) 1 8 Try.underlying22 infoI' rfl (by decide) base ic (.slice va (n + 1) vc) (L.take (n + 1)) E wr.heap.size #[.int .i64 E] rfl rfl (HO.out.below ((Below.refl _ _).alloc (Nat.le_refl _) _)) (blk_new wr _) rfl rfl (ic_one E) (by rw [hlk]; unfold maxLen; omega) (by rw [hlk]; omega) (by rw [World.size_alloc]; omega) ?_; intro g cap w7 ho7 hg7 _)
          have hOa := HO.out.below ((Below.refl _ _).alloc (Nat.le_refl _) (.cells #[.int .i64 E] 3))
          have c7 : Below w.heap.size w w7 := (hbw.alloc (by omega) (.cells #[.int .i64 E] 3)).grown hg7 (by rw [World.size_alloc]; omega) (fun j hj => by have := (hOa.lt j hj).1; omega)
          rw [← HTK.out, hlk, HTL.out] at ho7
          go_ret2
          exact ⟨some ⟨g, 0, none⟩, cap, rfl, OwnL.lower' ho7 (by omega), c7⟩
  · have hn : n = N := by omega
    subst hn
    have hn0 : (n : Int) ≤ 0 := by omega
    clear HK h0
    have hlt3 : w.heap.size < w2.heap.size := blk_lt hx
    go_wp2_with fail
    have HX3 := Lib.hid (blk_past w2 (.cells #[.int .i64 S] 3) hx)
    have j1 := blk_new w2 (.cells #[.int .i64 S] 3)
    have HO3 : Hid (OwnL (w2.alloc (.cells #[.int .i64 S] 3)) w2.heap.size 3 1 ic (.slice (some ⟨w2.heap.size, 0, none⟩) 1 1) (L.take 1)) := by
      have e : L.take 1 = [S] := by
        rw [take_getD L 0 (by rw [HL.out]; omega), H0.out]
        rfl
      rw [e]
      exact ⟨rfl, .inr ⟨_, 1, _, rfl, Nat.le_refl _, j1, Nat.le_refl _, by unfold maxLen; omega, rfl, rfl⟩⟩
    have c4 : Below w.heap.size w (w2.alloc (.cells #[.int .i64 S] 3)) := c2.alloc (by omega) _
    have hs4 : w2.heap.size ≤ (w2.alloc (.cells #[.int .i64 S] 3)).heap.size := by rw [World.size_alloc]; omega
    generalize w2.alloc _ = w4 at j1 HX3 HO3 c4 hs4 ⊢
    clear j1 hx x0 x1 x2 x3 x4 x5 x6 x7 x8
    generalize w2.heap.size = base at HO3 hlt3 hs4 ⊢
    go_loopw [5, 6, 7, 8] (fun v i _ _ wr => ∃ (k : Nat) (va : Option Addr) (vc : Nat), 1 ≤ k ∧ k ≤ n + 1 ∧ i = .int .i64 k ∧ v = .slice va k vc ∧ Hid (OwnL wr base 3 1 ic (.slice va k vc) (L.take k)) ∧ Below w.heap.size w wr ∧ Hid (wr.heap[w.heap.size]? = some (.cells #[.int .i64 S, .int .i64 E, .int .i64 Mo, .bool back, .bool last, .int .u8 stub, .int .u8 roll, .int .u8 wk, .slice a hs.length c] 26 (0, 0))) ∧ base ≤ wr.heap.size) (fun _ i _ _ _ => n + 1 - (intOf i).toNat)
    case atStart => exact ⟨1, _, _, by omega, by omega, rfl, rfl, HO3, c4, HX3, hs4⟩
    case round =>
      clear HO3 c4 HX3 hs4
      obtain ⟨k, va, vc, hk1, hk2, rfl, rfl, HO, hbw, HX, hbs⟩ := hrel
      have hx := HX.out
      have x0 := cell_of hx 0 _ rfl
      have x1 := cell_of hx 1 _ rfl
      have x2 := cell_of hx 2 _ rfl
      have x3 := cell_of hx 3 _ rfl
      have x4 := cell_of hx 4 _ rfl
      have x5 := cell_of hx 5 _ rfl
      have x6 := cell_of hx 6 _ rfl
      have x7 := cell_of hx 7 _ rfl
      have x8 := cell_of hx 8 _ rfl
      have hlk : (L.take k).length = k := by rw [List.length_take, HL.out]; omega
      rcases Nat.lt_or_ge k (n + 1) with hlt | hge
      · exact absurd hlt (by omega)
      · obtain rfl : k = n + 1 := by omega
        have HTK := Lib.hid (take_getD L (n + 1) (by rw [HL.out]; omega))
        rw [HE.out] at HTK
        have HTL : Hid (L.take (n + 1 + 1) = L) := List.take_of_length_le (by rw [HL.out]; omega)
        go_wp2_with (at_builtin; refine wpList_append_L (w := wr.alloc (.cells #[.int .i64 E] 3)) (P := Try.prog) (α := Int) rfl _ _ _ rfl 3 (.int .i64 0) 1 8 Try.underlying22 infoI' rfl (by decide) base ic (.slice va (n + 1) vc) (L.take (n + 1)) E wr.heap.size #[.int .i64 E] rfl rfl (HO.out.below ((Below.refl _ _).alloc (Nat.le_refl _) _)) (blk_new wr _) rfl rfl (ic_one E) (by rw [hlk]; unfold maxLen; omega) (by rw [hlk]; omega) (by rw [World.size_alloc]; omega) ?_; intro g cap w7 ho7 hg7 _)
        have hOa := HO.out.below ((Below.refl _ _).alloc (Nat.le_refl _) (.cells #[.int .i64 E] 3))
        have c7 : Below w.heap.size w w7 := (hbw.alloc (by omega) (.cells #[.int .i64 E] 3)).grown hg7 (by rw [World.size_alloc]; omega) (fun j hj => by have := (hOa.lt j hj).1; omega)
        rw [← HTK.out, hlk, HTL.out] at ho7
        go_ret2
        exact ⟨some ⟨g, 0, none⟩, cap, rfl, OwnL.lower' ho7 (by omega), c7⟩

/-- the reference's Dates, whatever the description -/
theorem rdates_any (s : Sch) (L : List Int) (g : Int) (w : World) (hS : SchAt w s) (h : DRes s L g) :
    Calls Try.prog 17 #[.agg s.cells] w fun e w' => ∃ a c, e = .returned (.tuple #[.slice a L.length c, .int .i64 g]) ∧ OwnL w' w.heap.size 3 1 ic (.slice a L.length c) L ∧ Below w.heap.size w w' := by
  have nil : ∀ {e : Ending} {w' : World} {z : Int}, (e = .returned (.tuple #[.slice none 0 0, .int .i64 z]) ∧ Below w.heap.size w w') → ∃ a c, e = .returned (.tuple #[.slice a ([] : List Int).length c, .int .i64 z]) ∧ OwnL w' w.heap.size 3 1 ic (.slice a ([] : List Int).length c) [] ∧ Below w.heap.size w w' := by
    rintro e w' z ⟨rfl, hb⟩
    exact ⟨none, 0, rfl, OwnL.nil _ _ _ _ _, hb⟩
  rcases h with ⟨h, rfl, rfl⟩ | ⟨y, m, d, N, hY, ⟨hk, rfl, rfl⟩ | ⟨hk, rfl, rfl⟩⟩
  · exact (rdates_bad s w hS h).mono (fun e w' h => nil h)
  · have hN : N ≤ 100 := by
      have : N ≤ kn s y m d N + 1 := by
        unfold kn kept
        split <;> omega
      omega
    rw [dl_len]
    exact rdates_yes s y m d N w hS hY hN hk
  · by_cases hN : N ≤ 100
    · exact (rdates_many s y m d N w hS hY hN hk).mono (fun e w' h => nil h)
    · exact (rdates_far s y m d N w hS hY (by omega)).mono (fun e w' h => nil h)

end Go.Proofs.Ytainmmdlbajpnaa.Sc
