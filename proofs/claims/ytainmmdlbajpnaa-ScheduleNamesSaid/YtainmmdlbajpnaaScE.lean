/-
  The walk of schedule.inner, counted from the end.
-/
import Derived.Test.YtainmmdlbajpnaaScD
namespace Go.Proofs.Ytainmmdlbajpnaa.Sc
open Go.RowKit Go.Shelf Go.Proofs.Ytainmmdlbajpnaa Go.Proofs.Ytainmmdlbajpnaa.Ls Go.Proofs.Ytainmmdlbajpnaa.Kb Go.Proofs.Ytainmmdlbajpnaa.Dt
attribute [local go_sem] Oper.semAt_some

set_option maxRecDepth 100000 in
set_option maxHeartbeats 2000000 in
theorem inner_bwd (S E Mo : Int) (last : Bool) (stub roll wk : Int) (a : Option Addr) (c : Nat) (hs : List Int) (y m d : Int) (N : Nat) (w : World) (hD : IsDate y m d E) (hn : E ≤ 99999) (hMo : 1 ≤ Mo ∧ Mo ≤ 1200)
    (hC : Cnt y m d (-Mo) last true S E N) (_hN : N ≤ 4000) :
    Calls Try.prog 26 #[.agg (Sch.mk S E Mo true last stub roll wk a c hs).cells] w fun e w' => ∃ v, e = .returned (.tuple #[v, .bool (stubB y m d (-Mo) last S N)]) ∧ OwnL w' w.heap.size 3 1 ic v (innerL y m d (-Mo) last N) ∧ Below w.heap.size w w' := by
  obtain ⟨m1, m2⟩ := hMo
  have HD := Lib.hid hD
  have HC := Lib.hid hC
  clear hD hC
  obtain ⟨M, hM1, hM2, hMo, hMn⟩ := end_exists (last := last) HD.out (show -Mo ≠ 0 by omega)
  have HM := Lib.hid (And.intro hMo hMn)
  clear hMo hMn
  refine (callsIn_wide (n := 9)).1 ?_
  refine callsIn_of_wp_marks Try.func26 rfl trivial ?_ rfl
  simp only [Try.ntmps26, Sch.cells, List.size_toArray, List.length_cons, List.length_nil, Nat.reduceAdd, Nat.reduceSub, Array.replicate_succ, Array.replicate_zero, List.push_toArray, List.append_toArray, List.nil_append, List.cons_append]
  gi_wp2_with fail
  obtain ⟨⟨k0, k1, k2, k3, k4⟩, hsz, hbo⟩ := blk_five w (.cells #[.int .i64 S, .int .i64 E, .int .i64 Mo, .bool true, .bool last, .int .u8 stub, .int .u8 roll, .int .u8 wk, .slice a hs.length c] 26) (.cells #[.slice none 0 0] 22) (.cells #[.bool false] 4) (.cells #[.func (.func 44) #[] #[.pointer (some ⟨w.heap.size, 0, none⟩)]] 66) (.cells #[.int .i64 E] 3)
  generalize ((((w.alloc _).alloc _).alloc _).alloc _).alloc _ = w5 at k0 k1 k2 k3 k4 hsz hbo ⊢
  have x0 := cell_of k0 0 _ rfl
  have y3 := cell_of k3 0 _ rfl
  have y4 := cell_of k4 0 _ rfl
  have f3 := frozen_of k3 0
  have f4 := frozen_of k4 0
  have HK5 := Lib.hid (And.intro k0 (And.intro k1 (And.intro k2 (And.intro k3 k4))))
  clear k0 k1 k2 k3 k4
  have hmx : Try.prog.follows .mixedOrders = true := by kernel_rfl
  gi_region_o
  have hbo : Below w.heap.size w (((w5.setCell ⟨w.heap.size + 1 + 1 + 1, 0, none⟩ (.func (.func 45) #[] #[.pointer (some ⟨w.heap.size, 0, none⟩)])).setCell ⟨w.heap.size + 1 + 1 + 1 + 1, 0, none⟩ (.int .i64 S)).drew) := ((hbo.setCell (by simp <;> omega) _).setCell (by simp <;> omega) _).drew
  have k0 : (((w5.setCell ⟨w.heap.size + 1 + 1 + 1, 0, none⟩ (.func (.func 45) #[] #[.pointer (some ⟨w.heap.size, 0, none⟩)])).setCell ⟨w.heap.size + 1 + 1 + 1 + 1, 0, none⟩ (.int .i64 S)).drew).heap[w.heap.size]? = _ := far_set (far_set HK5.out.1 (by omega) _) (by omega) _
  have k1 : (((w5.setCell ⟨w.heap.size + 1 + 1 + 1, 0, none⟩ (.func (.func 45) #[] #[.pointer (some ⟨w.heap.size, 0, none⟩)])).setCell ⟨w.heap.size + 1 + 1 + 1 + 1, 0, none⟩ (.int .i64 S)).drew).heap[w.heap.size + 1]? = _ := far_set (far_set HK5.out.2.1 (by omega) _) (by omega) _
  have k2 : (((w5.setCell ⟨w.heap.size + 1 + 1 + 1, 0, none⟩ (.func (.func 45) #[] #[.pointer (some ⟨w.heap.size, 0, none⟩)])).setCell ⟨w.heap.size + 1 + 1 + 1 + 1, 0, none⟩ (.int .i64 S)).drew).heap[w.heap.size + 1 + 1]? = _ := far_set (far_set HK5.out.2.2.1 (by omega) _) (by omega) _
  have k3 : (((w5.setCell ⟨w.heap.size + 1 + 1 + 1, 0, none⟩ (.func (.func 45) #[] #[.pointer (some ⟨w.heap.size, 0, none⟩)])).setCell ⟨w.heap.size + 1 + 1 + 1 + 1, 0, none⟩ (.int .i64 S)).drew).heap[w.heap.size + 1 + 1 + 1]? = _ := far_set (set1 HK5.out.2.2.2.1 _) (by omega) _
  have k4 : (((w5.setCell ⟨w.heap.size + 1 + 1 + 1, 0, none⟩ (.func (.func 45) #[] #[.pointer (some ⟨w.heap.size, 0, none⟩)])).setCell ⟨w.heap.size + 1 + 1 + 1 + 1, 0, none⟩ (.int .i64 S)).drew).heap[w.heap.size + 1 + 1 + 1 + 1]? = _ := set1 (far_set HK5.out.2.2.2.2 (by omega) _) _
  have hsz : (((w5.setCell ⟨w.heap.size + 1 + 1 + 1, 0, none⟩ (.func (.func 45) #[] #[.pointer (some ⟨w.heap.size, 0, none⟩)])).setCell ⟨w.heap.size + 1 + 1 + 1 + 1, 0, none⟩ (.int .i64 S)).drew).heap.size = w.heap.size + 5 := by rw [← hsz]; simp [World.setCell, World.drew]
  clear HK5 x0 y3 y4 f3 f4 hmx
  generalize World.drew _ = w5 at k0 k1 k2 k3 k4 hsz hbo ⊢
  have HK5 := Lib.hid (And.intro k0 (And.intro k1 (And.intro k2 (And.intro k3 k4))))
  have x0 := cell_of k0 0 _ rfl
  have x1 := cell_of k0 1 _ rfl
  have x2 := cell_of k0 2 _ rfl
  have x3 := cell_of k0 3 _ rfl
  have x4 := cell_of k0 4 _ rfl
  have x5 := cell_of k0 5 _ rfl
  have x6 := cell_of k0 6 _ rfl
  have x7 := cell_of k0 7 _ rfl
  have x8 := cell_of k0 8 _ rfl
  clear k0 k1 k2 k3 k4
  gi_wp2_with fail
  clear x0 x1 x2 x3 x4 x5 x6 x7 x8
  obtain ⟨k0, k1, k2, k3, k4⟩ := HK5.out
  clear HK5
  refine ⟨trivial, callsIn_wide.2 ((regular_any ⟨S, E, Mo, true, last, stub, roll, wk, a, c, hs⟩ w5 ⟨m1, m2⟩).mono ?_)⟩
  rintro e w1 ⟨X, Fb, T, rfl, kX, kF, kT, ⟨g1, g2, g3⟩, hb1⟩
  have k0 := blk_keep k0 hb1
  have k1 := blk_keep k1 hb1
  have k2 := blk_keep k2 hb1
  have k3 := blk_keep k3 hb1
  have k4 := blk_keep k4 hb1
  have c1 := bt hbo hb1 (Nat.le_refl _)
  have lX := blk_lt kX
  have lF := blk_lt kF
  have lT := blk_lt kT
  have hs1 := hb1.size
  rw [hsz] at g1 g2 g3 hs1
  clear hb1 hbo hsz
  have HK := Lib.hid (And.intro k0 (And.intro k1 (And.intro k2 (And.intro k3 k4))))
  have HX := Lib.hid (And.intro kX (And.intro kF kT))
  clear k0 k1 k2 k3 k4 kX kF kT
  clear k0 k1 k2 k3 k4
  gi_wp2
  obtain ⟨B1, hB1⟩ : ∃ B, w.heap.size + 1 = B := ⟨_, rfl⟩
  obtain ⟨B2, hB2⟩ : ∃ B, w.heap.size + 1 + 1 = B := ⟨_, rfl⟩
  obtain ⟨B3, hB3⟩ : ∃ B, w.heap.size + 1 + 1 + 1 = B := ⟨_, rfl⟩
  obtain ⟨B4, hB4⟩ : ∃ B, w.heap.size + 1 + 1 + 1 + 1 = B := ⟨_, rfl⟩
  rw [hB4, hB3, hB2, hB1] at HK ⊢
  obtain ⟨B0, hB0⟩ : ∃ B, w.heap.size = B := ⟨_, rfl⟩
  have HB0 := Lib.hid hB0
  rw [hB0] at HK ⊢
  have HS : Hid (B0 < w1.heap.size ∧ B1 < w1.heap.size ∧ B2 < w1.heap.size ∧ B3 < w1.heap.size ∧ B4 < w1.heap.size ∧ B1 = B0 + 1 ∧ B2 = B0 + 2 ∧ B3 = B0 + 3 ∧ B4 = B0 + 4 ∧ w.heap.size = B0) := by
    unfold Hid
    omega
  have HS2 : Hid (w.heap.size ≤ w1.heap.size ∧ B0 ≤ w1.heap.size) := by
    unfold Hid
    omega
  have hlXFT : ∀ b ∈ [X, Fb, T], b < w1.heap.size := fun b hb => by
    simp only [List.mem_cons, List.not_mem_nil, or_false] at hb
    omega
  have HL := Lib.hid hlXFT
  have HG : Hid (B0 + 5 ≤ X ∧ B0 + 5 ≤ Fb ∧ B0 + 5 ≤ T) := by
    unfold Hid
    omega
  have HC1 := Lib.hid c1
  clear hB0 hB1 hB2 hB3 hB4 lX lF lT hs1 g1 g2 g3 hlXFT c1
  obtain ⟨i0, hi, hz0, hz1, hz2⟩ := info_parts infoI
  have HI := Lib.hid (And.intro hi (And.intro hz0 (And.intro hz1 hz2)))
  clear hi hz0 hz1 hz2
  refine wpIn_rangeFunc_ownG (F := Fence.wide) rfl (by omega) (gf := 57) (lb := #[.pointer (some ⟨T, 0, none⟩), .pointer (some ⟨Fb, 0, none⟩), .pointer (some ⟨X, 0, none⟩)]) rfl trivial (enters_of Try.func57 (by kernel_rfl) rfl)
    (iter_stops ⟨S, E, Mo, true, last, stub, roll, wk, a, c, hs⟩ y m d (-Mo) E M X Fb T 8 w1 HD.out hn (by omega) (by omega) (by omega) (by omega) hM1 hM2 HM.out.1 HM.out.2 HX.out.1 HX.out.2.1 HX.out.2.2) (fun h k => h.t k) (kpB_b HL.out) (Below.refl _ _) (fun _ => rfl)
    (HoldI ([(B0, .cells #[.int .i64 S, .int .i64 E, .int .i64 Mo, .bool true, .bool last, .int .u8 stub, .int .u8 roll, .int .u8 wk, .slice a hs.length c] 26), (B2, .cells #[.bool false] 4), (B3, .cells #[.func (.func 45) #[] #[.pointer (some ⟨B0, 0, none⟩)]] 66), (B4, .cells #[.int .i64 S] 3)]) w1.heap.size B1 (fun x => x.2 && decide (S < x.1)) w)
    (fun c' pre' W => c' = .ret ∧ ∃ pre x, pre' = pre ++ [x] ∧ (x.2 && decide (S < x.1)) = false ∧ HoldI ([(B0, .cells #[.int .i64 S, .int .i64 E, .int .i64 Mo, .bool true, .bool last, .int .u8 stub, .int .u8 roll, .int .u8 wk, .slice a hs.length c] 26), (B2, .cells #[.bool (!x.2 || x.1 != S)] 4), (B3, .cells #[.func (.func 45) #[] #[.pointer (some ⟨B0, 0, none⟩)]] 66), (B4, .cells #[.int .i64 S] 3)]) w1.heap.size B1 (fun x => x.2 && decide (S < x.1)) w pre W)
    (holdI_own (by intro p hp; simp only [List.mem_cons, List.not_mem_nil, or_false] at hp; have := HS.out; rcases hp with rfl | rfl | rfl | rfl <;> simp <;> omega) HS2.out.1)
    (fun c' s A B row h hg hr => by
      obtain ⟨h1, pre, x, h2, h3, h4⟩ := h
      exact ⟨h1, pre, x, h2, h3, holdI_own (by intro p hp; simp only [List.mem_cons, List.not_mem_nil, or_false] at hp; have := HS.out; rcases hp with rfl | rfl | rfl | rfl <;> simp <;> omega) HS2.out.1 pre A B row h4 hg hr⟩)
    ⟨by
      intro p hp
      have := HK.out
      simp only [List.mem_cons, List.not_mem_nil, or_false] at hp
      rcases hp with rfl | rfl | rfl | rfl
      · exact this.1
      · exact this.2.2.1
      · exact this.2.2.2.1
      · exact this.2.2.2.2, ⟨_, HK.out.2.1, OwnL.nil _ _ _ _ _, trivial⟩, by simp, HC1.out, Nat.le_refl _⟩
    (fun x => { tmps := #[.agg #[.int .i64 S, .int .i64 E, .int .i64 Mo, .bool true, .bool last, .int .u8 stub, .int .u8 roll, .int .u8 wk, .slice a hs.length c],
      .pointer (some ⟨B0, 0, none⟩), .pointer (some ⟨B1, 0, none⟩), .pointer (some ⟨B2, 0, none⟩), .pointer (some ⟨B3, 0, none⟩), .pointer (some ⟨B4, 0, none⟩), .int .i64 x.1, .bool x.2,
      .func (.func 44) #[] #[.pointer (some ⟨B0, 0, none⟩)], .pointer (some ⟨B0, 1, none⟩), .int .i64 E, .pointer (some ⟨B0, 3, none⟩), .bool true, .func (.func 45) #[] #[.pointer (some ⟨B0, 0, none⟩)], .pointer (some ⟨B0, 0, none⟩), .int .i64 S,
      .agg #[.int .i64 S, .int .i64 E, .int .i64 Mo, .bool true, .bool last, .int .u8 stub, .int .u8 roll, .int .u8 wk, .slice a hs.length c],
      .func (.func 57) #[] #[.pointer (some ⟨T, 0, none⟩), .pointer (some ⟨Fb, 0, none⟩), .pointer (some ⟨X, 0, none⟩)], .int .i64 x.1, .bool x.2,
      undef, undef, undef, undef, undef, undef, undef, undef, undef, undef, undef, undef, undef, undef, undef, undef, undef, undef, undef, undef, undef], defers := [] }) ?assign ?body ?done ?stop
  case assign =>
    intro l x W K hK
    dsimp only [encR]
    gi_wp2
    exact hK
  case body =>
    rintro l pre ⟨v', b⟩ W ⟨hos, ⟨v, hv, hrow, _⟩, hq, hB, hbW⟩ hlt
    obtain ⟨va, vc, rfl, _⟩ := hrow.read ic_len
    have hmx : Try.prog.follows .mixedOrders = true := by kernel_rfl
    have n12 : B1 ≠ B2 := by have := HS.out; omega
    have n21 : B2 ≠ B1 := by have := HS.out; omega
    have n14 : B1 ≠ B4 := by have := HS.out; omega
    have n41 : B4 ≠ B1 := by have := HS.out; omega
    have n24 : B2 ≠ B4 := by have := HS.out; omega
    have n42 : B4 ≠ B2 := by have := HS.out; omega
    have h0 := hos (B0, _) (List.mem_cons_self ..)
    have h2 := hos (B2, _) (List.mem_cons_of_mem _ (List.mem_cons_self ..))
    have h3 := hos (B3, _) (List.mem_cons_of_mem _ (List.mem_cons_of_mem _ (List.mem_cons_self ..)))
    have h4 := hos (B4, _) (List.mem_cons_of_mem _ (List.mem_cons_of_mem _ (List.mem_cons_of_mem _ (List.mem_cons_self ..))))
    have x1 := cell_of h0 0 _ rfl
    have y2 := cell_of h2 0 _ rfl
    have y3 := cell_of h3 0 _ rfl
    have y4 := cell_of h4 0 _ rfl
    have f2 := frozen_of h2 0
    have y1 := hv.cell
    have f1 := hv.frozen
    have HO := Lib.hid (And.intro h0 (And.intro h2 (And.intro h3 h4)))
    have HQ := Lib.hid hq
    clear hos hq h0 h2 h3 h4
    dsimp only at *
    have hl : (pre.map Prod.fst).length = pre.length := List.length_map ..
    rw [hl] at hv hrow y1
    clear hl
    have HV := Lib.hid (And.intro hv hrow)
    have HD5 : Hid (B1 = B0 + 1 ∧ B2 = B0 + 2 ∧ B3 = B0 + 3 ∧ B4 = B0 + 4 ∧ B4 < w1.heap.size ∧ w.heap.size ≤ B0) := by
      have := HS.out
      unfold Hid
      omega
    clear hv hrow
    cases b
    · gi_wp2_with fail
      refine ⟨fun _ h => (by cases h), ?_⟩
      gi_wp2_with fail
      gi_region_with_o (fail)
      all_goals gi_wp2
      all_goals
        obtain ⟨r1, ⟨r2, r3, r4, r5⟩, r6, r7, r8⟩ := hold_ret (b := .bool true) HD5.out HO.out.1 HO.out.2.1 HO.out.2.2.1 HO.out.2.2.2 HV.out.1 HV.out.2 hB
        refine ⟨r1, rfl, pre, (v', false), rfl, rfl, ?_, ⟨_, r6, r7, trivial⟩, HQ.out, r8, Nat.le_trans hbW r1.size⟩
        intro p hp
        simp only [List.mem_cons, List.not_mem_nil, or_false] at hp
        rcases hp with rfl | rfl | rfl | rfl
        · exact r2
        · exact r3
        · exact r4
        · exact r5
    · by_cases hF : S < v'
      · gi_wp2_with fail
        refine ⟨trivial, (CallsIn.inRound l (callsIn_wide.2 (far2_any B0 S v' _ x1))).mono ?_⟩
        rintro e w' ⟨rfl, rfl⟩
        rw [decide_eq_true hF]
        have hlen : pre.length ≤ 4001 := by omega
        gi_wp2_with (gi_at_builtin; refine wpListIn_append_own _ rfl _ _ 22 rfl w1.heap.size 3 i0 (.int .i64 0) 1 8 Try.underlying22 HI.out.1 HI.out.2.1 HI.out.2.2.1 HI.out.2.2.2 rfl (by decide) _ _ _ rfl (World.ownsRow.alloc HV.out.2 _) ⟨w'.heap.size, 0, none⟩ 1 1 [.int .i64 v'] rfl rfl (cell_one_new _ _ _) (by simp [Value.oneCell']) (by simp [maxLen]; omega) (by simp; omega) (by simp; omega) ?_; intro v2 w2 hown' hgrow _; obtain ⟨g', cap', rfl⟩ := ownsRow_succ hown'; obtain ⟨q1, q2, q3, q4, q5, q6⟩ := hold_app (e := v') (by decide) HD5.out hbW HV.out.1 HV.out.2 hB (by simpa [ic] using hown') hgrow; have hc1 := q1.cell; have hf1 := q1.frozen)
        refine ⟨q2, fun b hb => q3 b (HL.out b hb) ?_, fun p hp => ?_, ⟨_, q4, by simpa using q5, trivial⟩, fun z hz => ?_, q6, Nat.le_trans hbW q2.size⟩
        · have := HG.out
          have := HD5.out
          simp only [List.mem_cons, List.not_mem_nil, or_false] at hb
          omega
        · have := HD5.out
          simp only [List.mem_cons, List.not_mem_nil, or_false] at hp
          rcases hp with rfl | rfl | rfl | rfl
          · exact (q3 B0 (by omega) (by omega)).trans HO.out.1
          · exact (q3 B2 (by omega) (by omega)).trans HO.out.2.1
          · exact (q3 B3 (by omega) (by omega)).trans HO.out.2.2.1
          · exact (q3 B4 (by omega) (by omega)).trans HO.out.2.2.2
        · rcases List.mem_append.1 hz with h | h
          · exact HQ.out z h
          · obtain rfl := List.mem_singleton.1 h
            show (true && decide (S < v')) = true
            rw [decide_eq_true hF]
            rfl
      · gi_wp2_with fail
        refine ⟨trivial, (CallsIn.inRound l (callsIn_wide.2 (far2_any B0 S v' _ x1))).mono ?_⟩
        rintro e w' ⟨rfl, rfl⟩
        rw [decide_eq_false (by omega)]
        gi_wp2_with fail
        gi_region_with_o (fail)
        all_goals gi_wp2
        all_goals
          obtain ⟨r1, ⟨r2, r3, r4, r5⟩, r6, r7, r8⟩ := hold_ret (b := .bool (v' != S)) HD5.out HO.out.1 HO.out.2.1 HO.out.2.2.1 HO.out.2.2.2 HV.out.1 HV.out.2 hB
          refine ⟨r1, rfl, pre, (v', true), rfl, ?_, ?_, ⟨_, r6, r7, trivial⟩, HQ.out, r8, Nat.le_trans hbW r1.size⟩
          · show (true && decide (S < v')) = false
            rw [decide_eq_false (by omega)]
            rfl
          intro p hp
          simp only [List.mem_cons, List.not_mem_nil, or_false] at hp
          rcases hp with rfl | rfl | rfl | rfl
          · exact r2
          · exact r3
          · exact r4
          · exact r5
  case done =>
    rintro D ys W hD rfl ⟨_, _, hq, _, _⟩ hK
    exfalso
    have hm : (vk y m d (-Mo) last M, ok y m d (-Mo) last M) ∈ regL y m d (-Mo) last M := by
      unfold regL
      rw [List.mem_map]
      exact ⟨M - 1, List.mem_range.2 (by omega), by rw [show M - 1 + 1 = M by omega]⟩
    have := hq _ hm
    rw [HM.out.2] at this
    cases this
  case stop =>
    rintro D c' pre' W hD hSp ⟨rfl, pre, x, rfl, hqx, hos, ⟨v, hv, hrow, _⟩, hq, hB, hbW⟩ hK
    obtain ⟨p1, rfl⟩ := pre_cnt HC.out hSp hq hqx
    obtain ⟨va, vc, rfl, _⟩ := hrow.read ic_len
    have h2 := hos (B2, _) (List.mem_cons_of_mem _ (List.mem_cons_self ..))
    have y1 := cell_kept hv.cell (grownBy_putObj' W D (.deferred none)) (fun r e => by cases e; exact ⟨_, hK, rfl⟩)
    have y2 := cell_kept (cell_of h2 0 _ rfl) (grownBy_putObj' W D (.deferred none)) (fun r e => by cases e; exact ⟨_, hK, rfl⟩)
    have HR := Lib.hid (show OwnL (W.putObj D (.deferred none)) w1.heap.size 3 1 ic _ (pre.map Prod.fst) from ownsRow_putObj hrow _ hK rfl)
    have HBB := Lib.hid (hB.trans (belowK_b (w := w) (Nat.le_refl _) W D _ (.deferred none) (Nat.le_trans HS2.out.1 hD) hK rfl rfl))
    have HP1 := Lib.hid p1
    clear p1 hos hq hqx hv hrow hB
    gi_wp2
    refine ⟨by simp, .inl ⟨_, _, rfl, run_takeDeferred hK, ?_⟩⟩
    have HSB : Hid ((!ok y m d (-Mo) last (N + 1) || vk y m d (-Mo) last (N + 1) != S) = stubB y m d (-Mo) last S N) := rfl
    refine ⟨.tuple #[.slice va (pre.map Prod.fst).length vc, .bool (!ok y m d (-Mo) last (N + 1) || vk y m d (-Mo) last (N + 1) != S)], by simp [results, Try.results26, go_sem, y1, y2], .slice va (pre.map Prod.fst).length vc, by rw [HSB.out], ?_, HBB.out⟩
    rw [← HP1.out]
    exact OwnL.lower' HR.out HS2.out.1

end Go.Proofs.Ytainmmdlbajpnaa.Sc
