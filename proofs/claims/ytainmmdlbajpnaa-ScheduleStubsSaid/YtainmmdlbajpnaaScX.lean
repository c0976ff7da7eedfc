/-
  The walk of the law ScheduleStubs where there are dates.
-/
import Derived.Test.YtainmmdlbajpnaaScW
namespace Go.Proofs.Ytainmmdlbajpnaa.Sc
open Go.RowKit Go.Proofs.Ytainmmdlbajpnaa Go.Proofs.Ytainmmdlbajpnaa.Ls Go.Proofs.Ytainmmdlbajpnaa.Kb
open Go.Proofs.Ytainmmdlbajpnaa.Dt hiding ret_bool ret_int

set_option maxRecDepth 100000 in
set_option maxHeartbeats 8000000 in
theorem stubs_yes (s : Sch) (y m d : Int) (N : Nat) {w : World} (hS : SchAt w s) (hYa : DYes (s.with 0) y m d N) (hYb : DYes (s.with 1) y m d N) (hN : N + 2 ≤ 100) :
    Calls Try.prog 4 #[.agg s.cells] w fun e w' => e = .returned (.bool true) ∧ Below w.heap.size w w' := by
  have hk0 : kn (s.with 0) y m d N = N := by
    unfold kn kept Sch.with
    simp
  have hRa : DRes (s.with 0) (dL (s.with 0) y m d N) 0 := .inr ⟨y, m, d, N, hYa, .inl ⟨by rw [hk0]; exact hN, by rw [hk0], rfl⟩⟩
  have hk1 := kn_le (s.with 1) y m d N
  have hRb : DRes (s.with 1) (dL (s.with 1) y m d (kn (s.with 1) y m d N)) 0 := .inr ⟨y, m, d, N, hYb, .inl ⟨by omega, rfl, rfl⟩⟩
  obtain ⟨g0, g1, g2, g3, g4, g5, g6, g7⟩ := sch_facts hYa.ok
  have hf : s.from ≤ 99999 := by
    have : s.from = (s.with 0).from := rfl
    rw [this]
    unfold Sch.from
    split <;> omega
  have HAM := Lib.hid (fun w => am y m d s.from (((N + 1 : Nat) : Int) * s.step) s.last w hYa.dt hf)
  have HV : Hid (addV y m d (((N + 1 : Nat) : Int) * s.step) s.last = vk y m d s.step s.last (N + 1) ∧ addOk y m d (((N + 1 : Nat) : Int) * s.step) s.last = ok y m d s.step s.last (N + 1)) := ⟨rfl, rfl⟩
  rw [HV.out.1, HV.out.2] at HAM
  have HK := Lib.hid (show kn (s.with 1) y m d N = kept (stubB y m d s.step s.last s.other N) true N from rfl)
  have HSBB := Lib.hid (show stubB y m d s.step s.last s.other N = (!ok y m d s.step s.last (N + 1) || vk y m d s.step s.last (N + 1) != s.other) from rfl)
  have HEQ : Hid (kn (s.with 1) y m d N = N → dL (s.with 0) y m d N = dL (s.with 1) y m d (kn (s.with 1) y m d N)) := fun h => by rw [h]; rfl
  have HER : Hid (∀ M, N = M + 1 → kn (s.with 1) y m d N = M → (dL (s.with 0) y m d N).eraseIdx (if s.back then 1 else M + 1) = dL (s.with 1) y m d (kn (s.with 1) y m d N)) := fun M h1 h2 => by
    rw [h2, h1]
    exact er_dL (s.with 0) y m d M
  have HDA := Lib.hid (fun (w' : World) (h : SchAt w' (s.with 0)) => dates_any (s.with 0) _ 0 w' h hRa)
  have HDB := Lib.hid (fun (w' : World) (h : SchAt w' (s.with 1)) => dates_any (s.with 1) _ 0 w' h hRb)
  have HLA := Lib.hid (dl_len (s.with 0) y m d N)
  have HLB := Lib.hid (dl_len (s.with 1) y m d (kn (s.with 1) y m d N))
  rw [HLA.out] at HDA
  rw [HLB.out] at HDB
  have hbd := mul_bd (N + 1) s.Mo (by omega) (by have : s.Mo = (s.with 0).Mo := rfl; omega) (by have : s.Mo = (s.with 0).Mo := rfl; omega)
  have hbd2 := mul_bd (N + 1) (-s.Mo) (by omega) (by have : s.Mo = (s.with 0).Mo := rfl; omega) (by have : s.Mo = (s.with 0).Mo := rfl; omega)
  have hc : ((N + 1 : Nat) : Int) = (N : Int) + 1 := by omega
  rw [hc] at HAM hbd hbd2
  clear HV hRa hRb hYa hYb hf hc hk0 g0 g1 g2 g3 g4 g5 g6 g7
  generalize dL (s.with 0) y m d N = A at HDA HLA HEQ HER
  generalize dL (s.with 1) y m d (kn (s.with 1) y m d N) = B at HDB HLB HEQ HER
  generalize kn (s.with 1) y m d N = n1 at HDB HLB HK HEQ HER hk1
  generalize stubB y m d s.step s.last s.other N = sb at HK HSBB
  generalize vk y m d s.step s.last (N + 1) = v at HAM HSBB
  generalize ok y m d s.step s.last (N + 1) = o at HAM HSBB
  have HSA := Lib.hid (hS.with 0)
  have HSB := Lib.hid (hS.with 1)
  have hlen := hS.len
  clear hS
  obtain ⟨S, E, Mo, back, last, stub, roll, wk, a, c, hs⟩ := s
  simp only [Sch.with] at *
  have hx := blk_new w (.cells #[.int .i64 S, .int .i64 E, .int .i64 Mo, .bool back, .bool last, .int .u8 stub, .int .u8 roll, .int .u8 wk, .slice a hs.length c] 26)
  have hbo : Below w.heap.size w (w.alloc (.cells #[.int .i64 S, .int .i64 E, .int .i64 Mo, .bool back, .bool last, .int .u8 stub, .int .u8 roll, .int .u8 wk, .slice a hs.length c] 26)) := (Below.refl _ _).alloc (Nat.le_refl _) _
  simp only [Sch.cells] at *
  go_enter Try.func4, Try.ntmps4
  go_wp2_with fail
  generalize w.alloc _ = wo at hx hbo ⊢
  refine (alive_any wo).mono ?_
  rintro e w1 ⟨rfl, hb1⟩
  have hx := blk_keep hx hb1
  have c1 := bt hbo hb1 (Nat.le_refl _)
  have x7 := cell_of hx 7 _ rfl
  have x8 := cell_of hx 8 _ rfl
  go_wp2_with fail
  refine (great_any wk a hs.length c w1 hlen).mono ?_
  rintro e w2 ⟨rfl, hb2⟩
  have hx := blk_keep hx hb2
  have c2 := bt c1 hb2 (Nat.le_refl _)
  clear x7 x8 hb1 hb2 hbo
  rcases hb (greatB hs.length) with hg | hg
  · rw [hg]
    clear hg
    go_wp2
    go_ret
    exact ⟨rfl, c2⟩
  rw [hg]
  clear hg
  have x0 := cell_of hx 0 _ rfl
  have x1 := cell_of hx 1 _ rfl
  have x2 := cell_of hx 2 _ rfl
  have x3 := cell_of hx 3 _ rfl
  have x4 := cell_of hx 4 _ rfl
  have x5 := cell_of hx 5 _ rfl
  have x6 := cell_of hx 6 _ rfl
  have x7 := cell_of hx 7 _ rfl
  have x8 := cell_of hx 8 _ rfl
  have xa0 := fun o => keepc x0 ((Below.refl _ _).alloc (Nat.le_refl _) o)
  have xb0 := fun o o' => keepc (xa0 o) ((Below.refl _ _).alloc (Nat.le_refl _) o')
  have xa1 := fun o => keepc x1 ((Below.refl _ _).alloc (Nat.le_refl _) o)
  have xb1 := fun o o' => keepc (xa1 o) ((Below.refl _ _).alloc (Nat.le_refl _) o')
  have xa2 := fun o => keepc x2 ((Below.refl _ _).alloc (Nat.le_refl _) o)
  have xb2 := fun o o' => keepc (xa2 o) ((Below.refl _ _).alloc (Nat.le_refl _) o')
  have xa3 := fun o => keepc x3 ((Below.refl _ _).alloc (Nat.le_refl _) o)
  have xb3 := fun o o' => keepc (xa3 o) ((Below.refl _ _).alloc (Nat.le_refl _) o')
  have xa4 := fun o => keepc x4 ((Below.refl _ _).alloc (Nat.le_refl _) o)
  have xb4 := fun o o' => keepc (xa4 o) ((Below.refl _ _).alloc (Nat.le_refl _) o')
  have xa5 := fun o => keepc x5 ((Below.refl _ _).alloc (Nat.le_refl _) o)
  have xb5 := fun o o' => keepc (xa5 o) ((Below.refl _ _).alloc (Nat.le_refl _) o')
  have xa6 := fun o => keepc x6 ((Below.refl _ _).alloc (Nat.le_refl _) o)
  have xb6 := fun o o' => keepc (xa6 o) ((Below.refl _ _).alloc (Nat.le_refl _) o')
  have xa7 := fun o => keepc x7 ((Below.refl _ _).alloc (Nat.le_refl _) o)
  have xb7 := fun o o' => keepc (xa7 o) ((Below.refl _ _).alloc (Nat.le_refl _) o')
  have xa8 := fun o => keepc x8 ((Below.refl _ _).alloc (Nat.le_refl _) o)
  have xb8 := fun o o' => keepc (xa8 o) ((Below.refl _ _).alloc (Nat.le_refl _) o')
  have HX2 := Lib.hid hx
  have hlt2 : w.heap.size < w2.heap.size := blk_lt hx
  clear hx
  go_upto_region 4 with fail
  go_cut [4, 5] from 28 to 29 (fun u v wc => ∃ p q : Nat, u = .pointer (some ⟨p, 0, none⟩) ∧ v = .pointer (some ⟨q, 0, none⟩) ∧ p ≠ q ∧ w.heap.size < p ∧ w.heap.size < q ∧ Hid (wc.heap[p]? = some (.cells #[.int .i64 S, .int .i64 E, .int .i64 Mo, .bool back, .bool last, .int .u8 stub, .int .u8 roll, .int .u8 wk, .slice a hs.length c] 26 (0, 0))) ∧ Hid (wc.heap[q]? = some (.cells #[.int .i64 S, .int .i64 E, .int .i64 Mo, .bool back, .bool last, .int .u8 stub, .int .u8 roll, .int .u8 wk, .slice a hs.length c] 26 (0, 0))) ∧ Hid (wc.heap[w.heap.size]? = some (.cells #[.int .i64 S, .int .i64 E, .int .i64 Mo, .bool back, .bool last, .int .u8 stub, .int .u8 roll, .int .u8 wk, .slice a hs.length c] 26 (0, 0))) ∧ Below w.heap.size w wc)
  case first =>
    go_region
    all_goals
      clear x0 x1 x2 x3 x4 x5 x6 x7 x8 xa0 xa1 xa2 xa3 xa4 xa5 xa6 xa7 xa8 xb0 xb1 xb2 xb3 xb4 xb5 xb6 xb7 xb8
      have HT := Lib.hid (blk_two w2 (.cells #[.int .i64 S, .int .i64 E, .int .i64 Mo, .bool back, .bool last, .int .u8 stub, .int .u8 roll, .int .u8 wk, .slice a hs.length c] 26) (.cells #[.int .i64 S, .int .i64 E, .int .i64 Mo, .bool back, .bool last, .int .u8 stub, .int .u8 roll, .int .u8 wk, .slice a hs.length c] 26))
      have HT0 := Lib.hid (blk_past _ (.cells #[.int .i64 S, .int .i64 E, .int .i64 Mo, .bool back, .bool last, .int .u8 stub, .int .u8 roll, .int .u8 wk, .slice a hs.length c] 26) (blk_past w2 (.cells #[.int .i64 S, .int .i64 E, .int .i64 Mo, .bool back, .bool last, .int .u8 stub, .int .u8 roll, .int .u8 wk, .slice a hs.length c] 26) HX2.out))
      have HTB : Hid (Below w.heap.size w ((w2.alloc (.cells #[.int .i64 S, .int .i64 E, .int .i64 Mo, .bool back, .bool last, .int .u8 stub, .int .u8 roll, .int .u8 wk, .slice a hs.length c] 26)).alloc (.cells #[.int .i64 S, .int .i64 E, .int .i64 Mo, .bool back, .bool last, .int .u8 stub, .int .u8 roll, .int .u8 wk, .slice a hs.length c] 26)).drew) := ((c2.alloc (by omega) _).alloc (by rw [World.size_alloc]; omega) _).drew
      change Exit.then _ _ _ _ ((w2.alloc (.cells #[.int .i64 S, .int .i64 E, .int .i64 Mo, .bool back, .bool last, .int .u8 stub, .int .u8 roll, .int .u8 wk, .slice a hs.length c] 26)).alloc (.cells #[.int .i64 S, .int .i64 E, .int .i64 Mo, .bool back, .bool last, .int .u8 stub, .int .u8 roll, .int .u8 wk, .slice a hs.length c] 26)).drew
      have HT1 : Hid (((w2.alloc (.cells #[.int .i64 S, .int .i64 E, .int .i64 Mo, .bool back, .bool last, .int .u8 stub, .int .u8 roll, .int .u8 wk, .slice a hs.length c] 26)).alloc (.cells #[.int .i64 S, .int .i64 E, .int .i64 Mo, .bool back, .bool last, .int .u8 stub, .int .u8 roll, .int .u8 wk, .slice a hs.length c] 26)).drew.heap[w2.heap.size]? = some (.cells #[.int .i64 S, .int .i64 E, .int .i64 Mo, .bool back, .bool last, .int .u8 stub, .int .u8 roll, .int .u8 wk, .slice a hs.length c] 26 (0, 0))) := HT.out.1
      have HT2 : Hid (((w2.alloc (.cells #[.int .i64 S, .int .i64 E, .int .i64 Mo, .bool back, .bool last, .int .u8 stub, .int .u8 roll, .int .u8 wk, .slice a hs.length c] 26)).alloc (.cells #[.int .i64 S, .int .i64 E, .int .i64 Mo, .bool back, .bool last, .int .u8 stub, .int .u8 roll, .int .u8 wk, .slice a hs.length c] 26)).drew.heap[w2.heap.size + 1]? = some (.cells #[.int .i64 S, .int .i64 E, .int .i64 Mo, .bool back, .bool last, .int .u8 stub, .int .u8 roll, .int .u8 wk, .slice a hs.length c] 26 (0, 0))) := HT.out.2
      have HT3 : Hid (((w2.alloc (.cells #[.int .i64 S, .int .i64 E, .int .i64 Mo, .bool back, .bool last, .int .u8 stub, .int .u8 roll, .int .u8 wk, .slice a hs.length c] 26)).alloc (.cells #[.int .i64 S, .int .i64 E, .int .i64 Mo, .bool back, .bool last, .int .u8 stub, .int .u8 roll, .int .u8 wk, .slice a hs.length c] 26)).drew.heap[w.heap.size]? = some (.cells #[.int .i64 S, .int .i64 E, .int .i64 Mo, .bool back, .bool last, .int .u8 stub, .int .u8 roll, .int .u8 wk, .slice a hs.length c] 26 (0, 0))) := HT0.out
      clear HT HT0
      generalize ((w2.alloc (.cells #[.int .i64 S, .int .i64 E, .int .i64 Mo, .bool back, .bool last, .int .u8 stub, .int .u8 roll, .int .u8 wk, .slice a hs.length c] 26)).alloc (.cells #[.int .i64 S, .int .i64 E, .int .i64 Mo, .bool back, .bool last, .int .u8 stub, .int .u8 roll, .int .u8 wk, .slice a hs.length c] 26)).drew = wn at HT1 HT2 HT3 HTB ⊢
      go_wp2
      go_meet
      case rel =>
        first
          | exact ⟨_, _, rfl, rfl, by omega, by omega, by omega, HT1, HT2, HT3, HTB.out⟩
          | exact ⟨_, _, rfl, rfl, by omega, by omega, by omega, HT2, HT1, HT3, HTB.out⟩
  case rest =>
    clear x0 x1 x2 x3 x4 x5 x6 x7 x8 xa0 xa1 xa2 xa3 xa4 xa5 xa6 xa7 xa8 xb0 xb1 xb2 xb3 xb4 xb5 xb6 xb7 xb8 HX2 hlt2
    obtain ⟨p, q, rfl, rfl, hpq, hwp, hwq, HP, HQ, HX, hbc⟩ := hcut
    have hqp : q ≠ p := fun e => hpq e.symm
    have y5 := cell_of HP.out 5 _ rfl
    have z5 := cell_of HQ.out 5 _ rfl
    have fy5 := frozen_of HP.out 5
    have fz5 := frozen_of HQ.out 5
    go_upto_region 6 with fail
    have HP1 : Hid (((wc.setCell ⟨p, 5, none⟩ (.int .u8 0)).setCell ⟨q, 5, none⟩ (.int .u8 1)).heap[p]? = some (.cells #[.int .i64 S, .int .i64 E, .int .i64 Mo, .bool back, .bool last, .int .u8 0, .int .u8 roll, .int .u8 wk, .slice a hs.length c] 26 (0, 0))) := far_set5 (set5 HP.out _) hpq _
    have HQ1 : Hid (((wc.setCell ⟨p, 5, none⟩ (.int .u8 0)).setCell ⟨q, 5, none⟩ (.int .u8 1)).heap[q]? = some (.cells #[.int .i64 S, .int .i64 E, .int .i64 Mo, .bool back, .bool last, .int .u8 1, .int .u8 roll, .int .u8 wk, .slice a hs.length c] 26 (0, 0))) := set5 (far_set5 HQ.out hqp _) _
    have HX1 : Hid (((wc.setCell ⟨p, 5, none⟩ (.int .u8 0)).setCell ⟨q, 5, none⟩ (.int .u8 1)).heap[w.heap.size]? = some (.cells #[.int .i64 S, .int .i64 E, .int .i64 Mo, .bool back, .bool last, .int .u8 stub, .int .u8 roll, .int .u8 wk, .slice a hs.length c] 26 (0, 0))) := far_set5 (far_set5 HX.out (by omega) _) (by omega) _
    have hb1 : Below w.heap.size w ((wc.setCell ⟨p, 5, none⟩ (.int .u8 0)).setCell ⟨q, 5, none⟩ (.int .u8 1)) := (hbc.setCell (p := ⟨p, 5, none⟩) (by show w.heap.size ≤ p; omega) _).setCell (p := ⟨q, 5, none⟩) (by show w.heap.size ≤ q; omega) _
    clear y5 z5 fy5 fz5 HP HQ HX hbc
    generalize (wc.setCell _ _).setCell _ _ = wd at HP1 HQ1 HX1 hb1 ⊢
    have hp1 := HP1.out
    have x0 := cell_of hp1 0 _ rfl
    have x1 := cell_of hp1 1 _ rfl
    have x2 := cell_of hp1 2 _ rfl
    have x3 := cell_of hp1 3 _ rfl
    have x4 := cell_of hp1 4 _ rfl
    have x5 := cell_of hp1 5 _ rfl
    have x6 := cell_of hp1 6 _ rfl
    have x7 := cell_of hp1 7 _ rfl
    have x8 := cell_of hp1 8 _ rfl
    clear hp1
    go_wp2_with fail
    refine (HDA.out wd (HSA.out.below hb1)).mono ?_
    rintro e w6 ⟨aa, ac, rfl, ho6, hb6⟩
    have c6 := bt hb1 hb6 (Nat.le_refl _)
    have HOA := Lib.hid (ho6.sl ic_len).1
    have hq1 := blk_keep HQ1.out hb6
    have HX6 := Lib.hid (blk_keep HX1.out hb6)
    clear x0 x1 x2 x3 x4 x5 x6 x7 x8 HP1 HQ1 HX1 hb1 hb6 ho6 hwp hwq hpq hqp
    have x0 := cell_of hq1 0 _ rfl
    have x1 := cell_of hq1 1 _ rfl
    have x2 := cell_of hq1 2 _ rfl
    have x3 := cell_of hq1 3 _ rfl
    have x4 := cell_of hq1 4 _ rfl
    have x5 := cell_of hq1 5 _ rfl
    have x6 := cell_of hq1 6 _ rfl
    have x7 := cell_of hq1 7 _ rfl
    have x8 := cell_of hq1 8 _ rfl
    clear hq1
    go_wp2_with fail
    refine (HDB.out w6 (HSB.out.below c6)).mono ?_
    rintro e w7 ⟨ba, bc, rfl, ho7, hb7⟩
    have c7 := bt c6 hb7 (Nat.le_refl _)
    have HOB := Lib.hid (ho7.sl ic_len).1
    have HOA7 := Lib.hid (HOA.out.below hb7)
    have HX7 := Lib.hid (blk_keep HX6.out hb7)
    clear x0 x1 x2 x3 x4 x5 x6 x7 x8 HX6 c6 hb7 ho7 HOA
    have hx7 := HX7.out
    have x0 := cell_of hx7 0 _ rfl
    have x1 := cell_of hx7 1 _ rfl
    have x2 := cell_of hx7 2 _ rfl
    have x3 := cell_of hx7 3 _ rfl
    have x4 := cell_of hx7 4 _ rfl
    clear hx7
    cases back
    · go_wp2_with fail
      go_quiet (fail)
      go_wp2_with fail
      refine Calls.mono (HAM.out _) ?_
      rintro e w8 ⟨g, rfl, ho, hb8⟩
      have c8 := bt (below_drewN c7 _) hb8 (Nat.le_refl _)
      have d8 := bt (below_drewN (Below.refl w7.heap.size w7) _) hb8 (Nat.le_refl _)
      have HOA8 := Lib.hid (HOA7.out.below d8)
      have HOB8 := Lib.hid (HOB.out.below d8)
      have hx8 := blk_keep HX7.out d8
      have x3 := cell_of hx8 3 _ rfl
      clear hb8 hx8 d8 HOA7 HOB c7
      have HOO := Lib.hid ho
      clear ho
      by_cases hz : N = 0
      · have hz2 : (N : Int) = 0 := by omega
        have hn1 : n1 = N := by
          rw [HK.out]
          unfold kept
          rw [if_neg (by simp [hz])]
        have hAB := HEQ.out hn1
        clear HOO
        subst hAB
        go_wp2_with fail
        refine (same_any aa ba ac bc 2 2 A A w8 (by rw [HLA.out, hz]) (by rw [HLB.out, hn1, hz]) (by unfold maxLen; omega) HOA8.out HOB8.out).mono ?_
        rintro e w9 ⟨rfl, hb9⟩
        have c9 := bt c8 hb9 (Nat.le_refl _)
        go_wp2
        go_ret
        exact ⟨ret_bool (by simp), c9⟩
      · have hz2 : ¬ (N : Int) = 0 := by omega
        have hz3 : ((N : Int) == 0) = false := by rw [beq_eq_false_iff_ne]; exact hz2
        rcases HOO.out with ⟨hoo, hg⟩ | ⟨hoo, hg⟩
        · subst hg
          by_cases hv : v = E
          · have hn1 : n1 = N := by
              rw [HK.out, HSBB.out, hoo, hv]
              unfold kept
              rw [if_neg]
              simp [Sch.other]
            have hAB := HEQ.out hn1
            clear HOO
            subst hAB
            go_wp2_with fail
            refine (same_any aa ba ac bc (N + 2) (N + 2) A A w8 HLA.out (by rw [HLB.out, hn1]) (by unfold maxLen; omega) HOA8.out HOB8.out).mono ?_
            rintro e w9 ⟨rfl, hb9⟩
            have c9 := bt c8 hb9 (Nat.le_refl _)
            go_wp2
            go_ret
            exact ⟨ret_bool (by simp), c9⟩
          · have hv2 : (v == E) = false := by rw [beq_eq_false_iff_ne]; exact hv
            go_wp2_with fail
            go_loopw [17, 18] (fun v i wr => ∃ (k : Nat) (va : Option Addr) (vc : Nat), k ≤ N + 2 ∧ i = .int .i64 k ∧ v = .slice va ((A.take k).eraseIdx N).length vc ∧ Hid (OwnL wr w8.heap.size 3 1 ic (.slice va ((A.take k).eraseIdx N).length vc) ((A.take k).eraseIdx N)) ∧ Below w.heap.size w wr ∧ Below w8.heap.size w8 wr) (fun _ i _ => N + 2 - (intOf i).toNat)
            case atStart => exact ⟨0, none, 0, by omega, rfl, rfl, OwnL.nil _ _ _ _ _, c8, Below.refl _ _⟩
            case round =>
              obtain ⟨k, va, vc, hk, rfl, rfl, HW, hbw, hb8⟩ := hrel
              rcases Nat.lt_or_ge k (N + 2) with hlt | hge
              · have hki : (k : Int) < (N : Int) + 2 := by omega
                obtain ⟨b_, off, rfl, qk⟩ := at_int (HOA8.out.below hb8) k (by rw [HLA.out]; exact hlt)
                have hle : ((A.take k).eraseIdx N).length ≤ 102 := by
                  have h1 := List.length_eraseIdx_le (A.take k) N
                  rw [List.length_take] at h1
                  omega
                have hsz := hb8.size
                by_cases hkn : (k : Int) = N
                · have HER1 := Lib.hid (er_same A k N (by rw [HLA.out]; exact hlt) (by omega))
                  go_wp2
                  go_roundw
                  case rel =>
                    refine ⟨k + 1, va, vc, by omega, by go_num, ?_, ?_, hbw, hb8⟩
                    · rw [HER1.out]
                    · unfold Hid
                      rw [HER1.out]
                      exact HW.out
                  case measure => simp [intOf]; omega
                · have HER1 := Lib.hid (er_more A k N (by rw [HLA.out]; exact hlt) (by omega))
                  generalize A.getD k 0 = D at HER1 qk
                  generalize (A.take k).eraseIdx N = Wk at HER1 HW hle ⊢
                  go_wp2_with (at_builtin; refine wpList_append_L (w := wr.alloc (.cells #[.int .i64 D] 3)) (P := Try.prog) (α := Int) rfl _ _ _ rfl 3 (.int .i64 0) 1 8 Try.underlying22 infoI' rfl (by decide) w8.heap.size ic (.slice va Wk.length vc) Wk D wr.heap.size #[.int .i64 D] rfl rfl (HW.out.below ((Below.refl _ _).alloc (Nat.le_refl _) _)) (blk_new wr _) rfl rfl (ic_one D) (by unfold maxLen; omega) (by omega) (by rw [World.size_alloc]; omega) ?_; intro g9 cap w9 ho9 hg9 _)
                  have hOa := HW.out.below ((Below.refl _ _).alloc (Nat.le_refl _) (.cells #[.int .i64 D] 3))
                  have c9 : Below w.heap.size w w9 := (hbw.alloc (by have := hbw.size; omega) (.cells #[.int .i64 D] 3)).grown hg9 (by rw [World.size_alloc]; have := hbw.size; omega) (fun j hj => by have := (hOa.lt j hj).1; have := c8.size; omega)
                  have d9 : Below w8.heap.size w8 w9 := (hb8.alloc (by omega) (.cells #[.int .i64 D] 3)).grown hg9 (by rw [World.size_alloc]; omega) (fun j hj => (hOa.lt j hj).1)
                  go_roundw
                  case rel =>
                    refine ⟨k + 1, some ⟨g9, 0, none⟩, cap, by omega, by go_num, ?_, ?_, c9, d9⟩
                    · rw [HER1.out, List.length_append]
                      rfl
                    · unfold Hid
                      rw [HER1.out, List.length_append]
                      exact ho9
                  case measure => simp [intOf]; omega
              · obtain rfl : k = N + 2 := by omega
                have hA : A.take (N + 2) = A := List.take_of_length_le (by rw [HLA.out]; omega)
                rw [hA] at HW ⊢
                have hE : A.eraseIdx N = B := by
                  have hn1 : n1 = N - 1 := by
                    rw [HK.out, HSBB.out, hoo]
                    unfold kept
                    rw [if_pos]
                    simp [Sch.other, hv]
                    omega
                  have := HER.out (N - 1) (by omega) hn1
                  rw [show N - 1 + 1 = N by omega] at this
                  simpa using this
                rw [hE] at HW ⊢
                rw [HLB.out] at HW ⊢
                go_wp2_with fail
                refine (same_any ba va bc vc _ _ B B wr HLB.out HLB.out (by unfold maxLen; omega) (HOB8.out.below hb8) (by have := (HW.out.sl ic_len).1; exact this)).mono ?_
                rintro e w9 ⟨rfl, hb9⟩
                have c9 := bt hbw hb9 (Nat.le_refl _)
                go_wp2
                go_ret
                exact ⟨ret_bool (by simp), c9⟩
        · have hg2 : (g == 0) = false := by
            rw [beq_eq_false_iff_ne]
            omega
          go_wp2_with fail
          go_loopw [17, 18] (fun v i wr => ∃ (k : Nat) (va : Option Addr) (vc : Nat), k ≤ N + 2 ∧ i = .int .i64 k ∧ v = .slice va ((A.take k).eraseIdx N).length vc ∧ Hid (OwnL wr w8.heap.size 3 1 ic (.slice va ((A.take k).eraseIdx N).length vc) ((A.take k).eraseIdx N)) ∧ Below w.heap.size w wr ∧ Below w8.heap.size w8 wr) (fun _ i _ => N + 2 - (intOf i).toNat)
          case atStart => exact ⟨0, none, 0, by omega, rfl, rfl, OwnL.nil _ _ _ _ _, c8, Below.refl _ _⟩
          case round =>
            obtain ⟨k, va, vc, hk, rfl, rfl, HW, hbw, hb8⟩ := hrel
            rcases Nat.lt_or_ge k (N + 2) with hlt | hge
            · have hki : (k : Int) < (N : Int) + 2 := by omega
              obtain ⟨b_, off, rfl, qk⟩ := at_int (HOA8.out.below hb8) k (by rw [HLA.out]; exact hlt)
              have hle : ((A.take k).eraseIdx N).length ≤ 102 := by
                have h1 := List.length_eraseIdx_le (A.take k) N
                rw [List.length_take] at h1
                omega
              have hsz := hb8.size
              by_cases hkn : (k : Int) = N
              · have HER1 := Lib.hid (er_same A k N (by rw [HLA.out]; exact hlt) (by omega))
                go_wp2
                go_roundw
                case rel =>
                  refine ⟨k + 1, va, vc, by omega, by go_num, ?_, ?_, hbw, hb8⟩
                  · rw [HER1.out]
                  · unfold Hid
                    rw [HER1.out]
                    exact HW.out
                case measure => simp [intOf]; omega
              · have HER1 := Lib.hid (er_more A k N (by rw [HLA.out]; exact hlt) (by omega))
                generalize A.getD k 0 = D at HER1 qk
                generalize (A.take k).eraseIdx N = Wk at HER1 HW hle ⊢
                go_wp2_with (at_builtin; refine wpList_append_L (w := wr.alloc (.cells #[.int .i64 D] 3)) (P := Try.prog) (α := Int) rfl _ _ _ rfl 3 (.int .i64 0) 1 8 Try.underlying22 infoI' rfl (by decide) w8.heap.size ic (.slice va Wk.length vc) Wk D wr.heap.size #[.int .i64 D] rfl rfl (HW.out.below ((Below.refl _ _).alloc (Nat.le_refl _) _)) (blk_new wr _) rfl rfl (ic_one D) (by unfold maxLen; omega) (by omega) (by rw [World.size_alloc]; omega) ?_; intro g9 cap w9 ho9 hg9 _)
                have hOa := HW.out.below ((Below.refl _ _).alloc (Nat.le_refl _) (.cells #[.int .i64 D] 3))
                have c9 : Below w.heap.size w w9 := (hbw.alloc (by have := hbw.size; omega) (.cells #[.int .i64 D] 3)).grown hg9 (by rw [World.size_alloc]; have := hbw.size; omega) (fun j hj => by have := (hOa.lt j hj).1; have := c8.size; omega)
                have d9 : Below w8.heap.size w8 w9 := (hb8.alloc (by omega) (.cells #[.int .i64 D] 3)).grown hg9 (by rw [World.size_alloc]; omega) (fun j hj => (hOa.lt j hj).1)
                go_roundw
                case rel =>
                  refine ⟨k + 1, some ⟨g9, 0, none⟩, cap, by omega, by go_num, ?_, ?_, c9, d9⟩
                  · rw [HER1.out, List.length_append]
                    rfl
                  · unfold Hid
                    rw [HER1.out, List.length_append]
                    exact ho9
                case measure => simp [intOf]; omega
            · obtain rfl : k = N + 2 := by omega
              have hA : A.take (N + 2) = A := List.take_of_length_le (by rw [HLA.out]; omega)
              rw [hA] at HW ⊢
              have hE : A.eraseIdx N = B := by
                have hn1 : n1 = N - 1 := by
                  rw [HK.out, HSBB.out, hoo]
                  unfold kept
                  rw [if_pos]
                  simp [Sch.other]
                  omega
                have := HER.out (N - 1) (by omega) hn1
                rw [show N - 1 + 1 = N by omega] at this
                simpa using this
              rw [hE] at HW ⊢
              rw [HLB.out] at HW ⊢
              go_wp2_with fail
              refine (same_any ba va bc vc _ _ B B wr HLB.out HLB.out (by unfold maxLen; omega) (HOB8.out.below hb8) (by have := (HW.out.sl ic_len).1; exact this)).mono ?_
              rintro e w9 ⟨rfl, hb9⟩
              have c9 := bt hbw hb9 (Nat.le_refl _)
              go_wp2
              go_ret
              exact ⟨ret_bool (by simp), c9⟩
    · have harg : -((N : Int) + 1) * Mo = ((N : Int) + 1) * (Sch.mk S E Mo true last stub roll wk a c hs).step := by
        show _ = ((N : Int) + 1) * (-Mo)
        rw [Int.mul_neg, Int.neg_mul]
      have HAR := Lib.hid harg
      have hbd3 : -5000000 ≤ -((N : Int) + 1) * Mo ∧ -((N : Int) + 1) * Mo ≤ 5000000 := by rw [Int.neg_mul]; rw [Int.mul_neg] at hbd2; exact hbd2
      clear harg
      go_wp2_with fail
      go_quiet (fail)
      go_wp2_with fail
      go_quiet (fail)
      go_wp2_with fail
      rw [HAR.out]
      refine Calls.mono (HAM.out _) ?_
      rintro e w8 ⟨g, rfl, ho, hb8⟩
      have c8 := bt (below_drewN c7 _) hb8 (Nat.le_refl _)
      have d8 := bt (below_drewN (Below.refl w7.heap.size w7) _) hb8 (Nat.le_refl _)
      have HOA8 := Lib.hid (HOA7.out.below d8)
      have HOB8 := Lib.hid (HOB.out.below d8)
      have hx8 := blk_keep HX7.out d8
      have x3 := cell_of hx8 3 _ rfl
      clear hb8 hx8 d8 HOA7 HOB c7
      have HOO := Lib.hid ho
      clear ho
      by_cases hz : N = 0
      · have hz2 : (N : Int) = 0 := by omega
        have hn1 : n1 = N := by
          rw [HK.out]
          unfold kept
          rw [if_neg (by simp [hz])]
        have hAB := HEQ.out hn1
        clear HOO
        subst hAB
        go_wp2_with fail
        refine (same_any aa ba ac bc 2 2 A A w8 (by rw [HLA.out, hz]) (by rw [HLB.out, hn1, hz]) (by unfold maxLen; omega) HOA8.out HOB8.out).mono ?_
        rintro e w9 ⟨rfl, hb9⟩
        have c9 := bt c8 hb9 (Nat.le_refl _)
        go_wp2
        go_ret
        exact ⟨ret_bool (by simp), c9⟩
      · have hz2 : ¬ (N : Int) = 0 := by omega
        have hz3 : ((N : Int) == 0) = false := by rw [beq_eq_false_iff_ne]; exact hz2
        rcases HOO.out with ⟨hoo, hg⟩ | ⟨hoo, hg⟩
        · subst hg
          by_cases hv : v = S
          · have hn1 : n1 = N := by
              rw [HK.out, HSBB.out, hoo, hv]
              unfold kept
              rw [if_neg]
              simp [Sch.other]
            have hAB := HEQ.out hn1
            clear HOO
            subst hAB
            go_wp2_with fail
            refine (same_any aa ba ac bc (N + 2) (N + 2) A A w8 HLA.out (by rw [HLB.out, hn1]) (by unfold maxLen; omega) HOA8.out HOB8.out).mono ?_
            rintro e w9 ⟨rfl, hb9⟩
            have c9 := bt c8 hb9 (Nat.le_refl _)
            go_wp2
            go_ret
            exact ⟨ret_bool (by simp), c9⟩
          · have hv2 : (v == S) = false := by rw [beq_eq_false_iff_ne]; exact hv
            go_wp2_with fail
            go_loopw [17, 18] (fun v i wr => ∃ (k : Nat) (va : Option Addr) (vc : Nat), k ≤ N + 2 ∧ i = .int .i64 k ∧ v = .slice va ((A.take k).eraseIdx 1).length vc ∧ Hid (OwnL wr w8.heap.size 3 1 ic (.slice va ((A.take k).eraseIdx 1).length vc) ((A.take k).eraseIdx 1)) ∧ Below w.heap.size w wr ∧ Below w8.heap.size w8 wr) (fun _ i _ => N + 2 - (intOf i).toNat)
            case atStart => exact ⟨0, none, 0, by omega, rfl, rfl, OwnL.nil _ _ _ _ _, c8, Below.refl _ _⟩
            case round =>
              obtain ⟨k, va, vc, hk, rfl, rfl, HW, hbw, hb8⟩ := hrel
              rcases Nat.lt_or_ge k (N + 2) with hlt | hge
              · have hki : (k : Int) < (N : Int) + 2 := by omega
                obtain ⟨b_, off, rfl, qk⟩ := at_int (HOA8.out.below hb8) k (by rw [HLA.out]; exact hlt)
                have hle : ((A.take k).eraseIdx 1).length ≤ 102 := by
                  have h1 := List.length_eraseIdx_le (A.take k) 1
                  rw [List.length_take] at h1
                  omega
                have hsz := hb8.size
                by_cases hkn : (k : Int) = 1
                · have HER1 := Lib.hid (er_same A k 1 (by rw [HLA.out]; exact hlt) (by omega))
                  go_wp2
                  go_roundw
                  case rel =>
                    refine ⟨k + 1, va, vc, by omega, by go_num, ?_, ?_, hbw, hb8⟩
                    · rw [HER1.out]
                    · unfold Hid
                      rw [HER1.out]
                      exact HW.out
                  case measure => simp [intOf]; omega
                · have HER1 := Lib.hid (er_more A k 1 (by rw [HLA.out]; exact hlt) (by omega))
                  generalize A.getD k 0 = D at HER1 qk
                  generalize (A.take k).eraseIdx 1 = Wk at HER1 HW hle ⊢
                  go_wp2_with (at_builtin; refine wpList_append_L (w := wr.alloc (.cells #[.int .i64 D] 3)) (P := Try.prog) (α := Int) rfl _ _ _ rfl 3 (.int .i64 0) 1 8 Try.underlying22 infoI' rfl (by decide) w8.heap.size ic (.slice va Wk.length vc) Wk D wr.heap.size #[.int .i64 D] rfl rfl (HW.out.below ((Below.refl _ _).alloc (Nat.le_refl _) _)) (blk_new wr _) rfl rfl (ic_one D) (by unfold maxLen; omega) (by omega) (by rw [World.size_alloc]; omega) ?_; intro g9 cap w9 ho9 hg9 _)
                  have hOa := HW.out.below ((Below.refl _ _).alloc (Nat.le_refl _) (.cells #[.int .i64 D] 3))
                  have c9 : Below w.heap.size w w9 := (hbw.alloc (by have := hbw.size; omega) (.cells #[.int .i64 D] 3)).grown hg9 (by rw [World.size_alloc]; have := hbw.size; omega) (fun j hj => by have := (hOa.lt j hj).1; have := c8.size; omega)
                  have d9 : Below w8.heap.size w8 w9 := (hb8.alloc (by omega) (.cells #[.int .i64 D] 3)).grown hg9 (by rw [World.size_alloc]; omega) (fun j hj => (hOa.lt j hj).1)
                  go_roundw
                  case rel =>
                    refine ⟨k + 1, some ⟨g9, 0, none⟩, cap, by omega, by go_num, ?_, ?_, c9, d9⟩
                    · rw [HER1.out, List.length_append]
                      rfl
                    · unfold Hid
                      rw [HER1.out, List.length_append]
                      exact ho9
                  case measure => simp [intOf]; omega
              · obtain rfl : k = N + 2 := by omega
                have hA : A.take (N + 2) = A := List.take_of_length_le (by rw [HLA.out]; omega)
                rw [hA] at HW ⊢
                have hE : A.eraseIdx 1 = B := by
                  have hn1 : n1 = N - 1 := by
                    rw [HK.out, HSBB.out, hoo]
                    unfold kept
                    rw [if_pos]
                    simp [Sch.other, hv]
                    omega
                  have := HER.out (N - 1) (by omega) hn1
                  rw [show N - 1 + 1 = N by omega] at this
                  simpa using this
                rw [hE] at HW ⊢
                rw [HLB.out] at HW ⊢
                go_wp2_with fail
                refine (same_any ba va bc vc _ _ B B wr HLB.out HLB.out (by unfold maxLen; omega) (HOB8.out.below hb8) (by have := (HW.out.sl ic_len).1; exact this)).mono ?_
                rintro e w9 ⟨rfl, hb9⟩
                have c9 := bt hbw hb9 (Nat.le_refl _)
                go_wp2
                go_ret
                exact ⟨ret_bool (by simp), c9⟩
        · have hg2 : (g == 0) = false := by
            rw [beq_eq_false_iff_ne]
            omega
          go_wp2_with fail
          go_loopw [17, 18] (fun v i wr => ∃ (k : Nat) (va : Option Addr) (vc : Nat), k ≤ N + 2 ∧ i = .int .i64 k ∧ v = .slice va ((A.take k).eraseIdx 1).length vc ∧ Hid (OwnL wr w8.heap.size 3 1 ic (.slice va ((A.take k).eraseIdx 1).length vc) ((A.take k).eraseIdx 1)) ∧ Below w.heap.size w wr ∧ Below w8.heap.size w8 wr) (fun _ i _ => N + 2 - (intOf i).toNat)
          case atStart => exact ⟨0, none, 0, by omega, rfl, rfl, OwnL.nil _ _ _ _ _, c8, Below.refl _ _⟩
          case round =>
            obtain ⟨k, va, vc, hk, rfl, rfl, HW, hbw, hb8⟩ := hrel
            rcases Nat.lt_or_ge k (N + 2) with hlt | hge
            · have hki : (k : Int) < (N : Int) + 2 := by omega
              obtain ⟨b_, off, rfl, qk⟩ := at_int (HOA8.out.below hb8) k (by rw [HLA.out]; exact hlt)
              have hle : ((A.take k).eraseIdx 1).length ≤ 102 := by
                have h1 := List.length_eraseIdx_le (A.take k) 1
                rw [List.length_take] at h1
                omega
              have hsz := hb8.size
              by_cases hkn : (k : Int) = 1
              · have HER1 := Lib.hid (er_same A k 1 (by rw [HLA.out]; exact hlt) (by omega))
                go_wp2
                go_roundw
                case rel =>
                  refine ⟨k + 1, va, vc, by omega, by go_num, ?_, ?_, hbw, hb8⟩
                  · rw [HER1.out]
                  · unfold Hid
                    rw [HER1.out]
                    exact HW.out
                case measure => simp [intOf]; omega
              · have HER1 := Lib.hid (er_more A k 1 (by rw [HLA.out]; exact hlt) (by omega))
                generalize A.getD k 0 = D at HER1 qk
                generalize (A.take k).eraseIdx 1 = Wk at HER1 HW hle ⊢
                go_wp2_with (at_builtin; refine wpList_append_L (w := wr.alloc (.cells #[.int .i64 D] 3)) (P := Try.prog) (α := Int) rfl _ _ _ rfl 3 (.int .i64 0) 1 8 Try.underlying22 infoI' rfl (by decide) w8.heap.size ic (.slice va Wk.length vc) Wk D wr.heap.size #[.int .i64 D] rfl rfl (HW.out.below ((Below.refl _ _).alloc (Nat.le_refl _) _)) (blk_new wr _) rfl rfl (ic_one D) (by unfold maxLen; omega) (by omega) (by rw [World.size_alloc]; omega) ?_; intro g9 cap w9 ho9 hg9 _)
                have hOa := HW.out.below ((Below.refl _ _).alloc (Nat.le_refl _) (.cells #[.int .i64 D] 3))
                have c9 : Below w.heap.size w w9 := (hbw.alloc (by have := hbw.size; omega) (.cells #[.int .i64 D] 3)).grown hg9 (by rw [World.size_alloc]; have := hbw.size; omega) (fun j hj => by have := (hOa.lt j hj).1; have := c8.size; omega)
                have d9 : Below w8.heap.size w8 w9 := (hb8.alloc (by omega) (.cells #[.int .i64 D] 3)).grown hg9 (by rw [World.size_alloc]; omega) (fun j hj => (hOa.lt j hj).1)
                go_roundw
                case rel =>
                  refine ⟨k + 1, some ⟨g9, 0, none⟩, cap, by omega, by go_num, ?_, ?_, c9, d9⟩
                  · rw [HER1.out, List.length_append]
                    rfl
                  · unfold Hid
                    rw [HER1.out, List.length_append]
                    exact ho9
                case measure => simp [intOf]; omega
            · obtain rfl : k = N + 2 := by omega
              have hA : A.take (N + 2) = A := List.take_of_length_le (by rw [HLA.out]; omega)
              rw [hA] at HW ⊢
              have hE : A.eraseIdx 1 = B := by
                have hn1 : n1 = N - 1 := by
                  rw [HK.out, HSBB.out, hoo]
                  unfold kept
                  rw [if_pos]
                  simp [Sch.other]
                  omega
                have := HER.out (N - 1) (by omega) hn1
                rw [show N - 1 + 1 = N by omega] at this
                simpa using this
              rw [hE] at HW ⊢
              rw [HLB.out] at HW ⊢
              go_wp2_with fail
              refine (same_any ba va bc vc _ _ B B wr HLB.out HLB.out (by unfold maxLen; omega) (HOB8.out.below hb8) (by have := (HW.out.sl ic_len).1; exact this)).mono ?_
              rintro e w9 ⟨rfl, hb9⟩
              have c9 := bt hbw hb9 (Nat.le_refl _)
              go_wp2
              go_ret
              exact ⟨ret_bool (by simp), c9⟩

theorem stubs_walk (s : Sch) {w : World} (hS : SchAt w s) (_hU : SchU s) :
    Calls Try.prog 4 #[.agg s.cells] w fun e w' => e = .returned (.bool true) ∧ Below w.heap.size w w' := by
  rcases stubs_cases s with ⟨La, ga, Lb, gb, h1, h2, h3, h4, h5⟩ | ⟨y, m, d, N, h1, h2, h3⟩
  · exact stubs_no s La Lb ga gb hS h1 h2 h3 h4 h5
  · exact stubs_yes s y m d N hS h1 h2 h3

end Go.Proofs.Ytainmmdlbajpnaa.Sc
