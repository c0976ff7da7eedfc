/-
  The walk of the law ScheduleCovers.
-/
import Derived.Test.YtainmmdlbajpnaaClK
import Derived.Test.YtainmmdlbajpnaaClJ
import Derived.Test.YtainmmdlbajpnaaScI
import Derived.Deep.RegionHeld3
namespace Go.Proofs.Ytainmmdlbajpnaa.Sc
open Go.RowKit Go.Proofs.Ytainmmdlbajpnaa Go.Proofs.Ytainmmdlbajpnaa.Ls Go.Proofs.Ytainmmdlbajpnaa.Kb
open Go.Proofs.Ytainmmdlbajpnaa.Dt hiding ret_bool ret_int

theorem perL_get (D R : Nat → Int) (m k : Nat) (_hk : k < m) (h : k < (perL D R m).length) : (perL D R m)[k] = (D k, D (k + 1), R k, R (k + 1)) := by
  simp [perL, perQ]

/-- the cells of the periods -/
theorem at_perL {w : World} {b off : Nat} {D R : Nat → Int} {m : Nat} (h : AtL w 4 pqc (some ⟨b, off, none⟩) (perL D R m)) (k : Nat) (hk : k < m) : w.cell? ⟨b, off + k * 4, none⟩ = some (.int .i64 (D k)) ∧ w.cell? ⟨b, off + k * 4 + 1, none⟩ = some (.int .i64 (D (k + 1))) ∧ w.cell? ⟨b, off + k * 4 + 2, none⟩ = some (.int .i64 (R k)) ∧ w.cell? ⟨b, off + k * 4 + 3, none⟩ = some (.int .i64 (R (k + 1))) := by
  have hl : k < (perL D R m).length := by rw [perL_len]; exact hk
  obtain ⟨b', off', ha, h0, h1, h2, h3⟩ := at_per h k hl
  cases ha
  rw [perL_get D R m k hk hl] at h0 h1 h2 h3
  exact ⟨h0, h1, h2, h3⟩

set_option maxRecDepth 100000 in
set_option maxHeartbeats 4000000 in
theorem covers_walk (s : Sch) {w : World} (hS : SchAt w s) (hU : SchU s) :
    Calls Try.prog 8 #[.agg s.cells] w fun e w' => e = .returned (.bool true) ∧ Below w.heap.size w w' := by
  obtain ⟨L, ga, hR⟩ := dres_exists s
  obtain ⟨P, g, hP⟩ := pres_exists s hU.roll.1 L ga hR
  have HP := Lib.hid (fun (w' : World) (h : SchAt w' s) => periods_any s L ga P g h hU.wk.1 hR hP)
  have HC : Hid ((g ≠ 0 ∧ P = []) ∨ (g = 0 ∧ ∃ (m : Nat) (D R : Nat → Int), P = perL D R m ∧ 1 ≤ m ∧ m ≤ 99 ∧ D 0 = s.S ∧ D m = s.E ∧ (∀ i, i < m → D i < D (i + 1)) ∧ (∀ i, i < m → R i ≤ R (i + 1)) ∧
      ∀ i, i ≤ m → ∀ w', AtL w' 1 ic s.a s.hs → Calls Try.prog 23 #[.agg #[.int .u8 s.wk, .slice s.a s.hs.length s.c], .int .i64 (D i), .int .u8 s.roll] w' fun o w'' => o = .returned (.tuple #[.int .i64 (R i), .int .i64 0]) ∧ Below w'.heap.size w' w'')) := by
    rcases hP with ⟨h1, h2, h3⟩ | ⟨rfl, m, D, R, E, hK, hc, h0, hm, hlt, hr⟩
    · exact .inl ⟨by omega, h2⟩
    · by_cases hall : ∀ i, i ≤ m → E i = 0
      · obtain ⟨hp, hg⟩ := hK.ok hall
        refine .inr ⟨hg, m, D, R, hp, hK.lo, hK.hi, h0, hm, hlt, fun i hi => ?_, fun i hi w' hA => ?_⟩
        · have a := (hr i).2
          have b := (hr (i + 1)).2
          rw [hall i (by omega)] at a
          rw [hall (i + 1) (by omega)] at b
          exact roll_mono (hr i).1 (hr (i + 1)).1 a b (Int.le_of_lt (hlt i hi))
        · have := roll_any s.wk s.a s.c s.hs (D i) s.roll (R i) (E i) w' hS.len hc hU.wk.1 (hr i).1 hA (hr i).2
          rw [hall i hi] at this
          exact this
      · have : ∃ i, i ≤ m ∧ E i = 40 := by
          refine Classical.byContradiction fun hne => hall fun i hi => ?_
          rcases hK.err i hi with h | h
          · exact h
          · exact absurd ⟨i, hi, h⟩ hne
        obtain ⟨i, hi, he⟩ := this
        obtain ⟨hp, hg⟩ := hK.bad i hi he
        exact .inl ⟨by omega, hp⟩
  have HS := Lib.hid hS
  have HH := Lib.hid hS.at'
  have hlen := hS.len
  clear hS hU hR hP
  obtain ⟨S, En, Mo, back, last, stub, roll, wk, a, c, hs⟩ := s
  simp only [Sch.cells] at *
  have hx := blk_new w (.cells #[.int .i64 S, .int .i64 En, .int .i64 Mo, .bool back, .bool last, .int .u8 stub, .int .u8 roll, .int .u8 wk, .slice a hs.length c] 26)
  have hbo : Below w.heap.size w (w.alloc (.cells #[.int .i64 S, .int .i64 En, .int .i64 Mo, .bool back, .bool last, .int .u8 stub, .int .u8 roll, .int .u8 wk, .slice a hs.length c] 26)) := (Below.refl _ _).alloc (Nat.le_refl _) _
  go_enter Try.func8, Try.ntmps8
  go_wp2_with fail
  generalize w.alloc _ = wo at hx hbo ⊢
  refine (alive_any wo).mono ?_
  rintro e w1 ⟨rfl, hb1⟩
  have hx := blk_keep hx hb1
  have c1 := bt hbo hb1 (Nat.le_refl _)
  have x7 := cell_of hx 7 _ rfl
  have x8 := cell_of hx 8 _ rfl
  go_wp2_with fail
  refine (great_any wk a hs.length c w1 hlen).mono ?_
  rintro e w2 ⟨rfl, hb2⟩
  have hx := blk_keep hx hb2
  have c2 := bt c1 hb2 (Nat.le_refl _)
  clear x7 x8 hb1 hb2 hbo c1
  rcases hb (greatB hs.length) with hg | hg
  · rw [hg]
    clear hg
    go_wp2
    go_ret
    exact ⟨rfl, c2⟩
  rw [hg]
  clear hg
  have x0 := cell_of hx 0 _ rfl
  have x1 := cell_of hx 1 _ rfl
  have x2 := cell_of hx 2 _ rfl
  have x3 := cell_of hx 3 _ rfl
  have x4 := cell_of hx 4 _ rfl
  have x5 := cell_of hx 5 _ rfl
  have x6 := cell_of hx 6 _ rfl
  have x7 := cell_of hx 7 _ rfl
  have x8 := cell_of hx 8 _ rfl
  go_wp2_with fail
  refine (HP.out w2 (HS.out.below c2)).mono ?_
  rintro e w3 ⟨pa, pc', rfl, ho3, hb3⟩
  have c3 := bt c2 hb3 (Nat.le_refl _)
  have HX3 := Lib.hid (blk_keep hx hb3)
  have HQ3 := Lib.hid (ho3.sl pqc_len).1
  clear x0 x1 x2 x3 x4 x5 x6 x7 x8 ho3 hb3 hx c2 HP HS
  rcases HC.out with ⟨hg, rfl⟩ | ⟨rfl, m, D, R, rfl, hm1, hm2, h0, hm, hlt, hle, hroll⟩
  · have hg2 : (g == 0) = false := by rw [beq_eq_false_iff_ne]; exact hg
    go_wp2
    go_ret
    exact ⟨rfl, c3⟩
  rw [perL_len]
  have HL := Lib.hid hlt
  have HE := Lib.hid hle
  have H0 := Lib.hid h0
  have HM := Lib.hid hm
  have HRO := Lib.hid (show ∀ i, i ≤ m → ∀ wx, Below w3.heap.size w3 wx → _ from fun i hi wx h => hroll i hi wx ((HH.out.below c3).below h))
  obtain ⟨pb, po, rfl, _⟩ := at_per HQ3.out 0 (by rw [perL_len]; omega)
  have HQ := Lib.hid (show ∀ wx, Below w3.heap.size w3 wx → ∀ k, k < m → wx.cell? ⟨pb, po + k * 4, none⟩ = some (.int .i64 (D k)) ∧ wx.cell? ⟨pb, po + k * 4 + 1, none⟩ = some (.int .i64 (D (k + 1))) ∧ wx.cell? ⟨pb, po + k * 4 + 2, none⟩ = some (.int .i64 (R k)) ∧ wx.cell? ⟨pb, po + k * 4 + 3, none⟩ = some (.int .i64 (R (k + 1))) from
    fun wx h k hk => at_perL (HQ3.out.below h) k hk)
  have HX := Lib.hid (show ∀ wx, Below w3.heap.size w3 wx → wx.heap[w.heap.size]? = _ from fun wx h => blk_keep HX3.out h)
  clear hlt hle h0 hm hroll HQ3 HX3 HC HH
  have k3 : Below w3.heap.size w3 w3 := Below.refl _ _
  have x0 := cell_of (HX.out w3 k3) 0 _ rfl
  have x1 := cell_of (HX.out w3 k3) 1 _ rfl
  obtain ⟨p0, _, _, _⟩ := HQ.out w3 k3 0 (by omega)
  obtain ⟨_, p1, _, _⟩ := HQ.out w3 k3 (m - 1) (by omega)
  rw [show m - 1 + 1 = m by omega, HM.out] at p1
  rw [H0.out, Nat.zero_mul, Nat.add_zero] at p0
  have i1 : IntKind.i64.wrap ((m : Int) - 1) = (m : Int) - 1 := by rw [IntKind.wrap_i64]; omega
  have i2 : ((m : Int) - 1).toNat = m - 1 := by omega
  have i3 : (0 : Int) ≤ (m : Int) - 1 := by omega
  have i4 : (m : Int) - 1 < m := by omega
  have i5 : (1 : Int) ≤ m := by omega
  have i6 : (m : Int) ≤ 99 := by omega
  have i7 : (0 : Int) < m := by omega
  have i8 : decide ((m : Int) < 1) = false := by rw [decide_eq_false_iff_not]; omega
  have i9 : decide (99 < (m : Int)) = false := by rw [decide_eq_false_iff_not]; omega
  go_wp2_with fail
  go_quiet (fail)
  clear p0 p1 x0 x1 i1 i2 i3 i4 i8 i9
  go_wp2_with fail
  go_loopw [6, 7, 8, 9, 10] (fun i _ _ _ _ wr => ∃ k : Nat, k ≤ m ∧ i = .int .i64 k ∧ Below w3.heap.size w3 wr) (fun i _ _ _ _ _ => m - (intOf i).toNat)
  case atStart => exact ⟨0, by omega, rfl, below_drewN k3 _⟩
  case round =>
    obtain ⟨k, hk, rfl, kb⟩ := hrel
    rcases Nat.lt_or_ge k m with hlt | hge
    · have j1 : (k : Int) < m := by omega
      have HB := Lib.hid (show ∀ wx, Below w3.heap.size w3 wx → wx.cell? ⟨w.heap.size, 7, none⟩ = some (.int .u8 wk) ∧ wx.cell? ⟨w.heap.size, 8, none⟩ = some (.slice a hs.length c) ∧ wx.cell? ⟨w.heap.size, 6, none⟩ = some (.int .u8 roll) ∧ wx.cell? ⟨pb, po + k * 4, none⟩ = some (.int .i64 (D k)) ∧ wx.cell? ⟨pb, po + k * 4 + 1, none⟩ = some (.int .i64 (D (k + 1))) from
        fun wx h => ⟨cell_of (HX.out wx h) 7 _ rfl, cell_of (HX.out wx h) 8 _ rfl, cell_of (HX.out wx h) 6 _ rfl, (HQ.out wx h k hlt).1, (HQ.out wx h k hlt).2.1⟩)
      obtain ⟨x7, x8, x6, q0, q1⟩ := HB.out _ kb
      have kd := kb.drew
      go_wp2_with fail
      go_region_held3 (fun wx => wx.cell? ⟨w.heap.size, 7, none⟩ = some (.int .u8 wk) ∧ wx.cell? ⟨w.heap.size, 8, none⟩ = some (.slice a hs.length c) ∧ wx.cell? ⟨w.heap.size, 6, none⟩ = some (.int .u8 roll) ∧ wx.cell? ⟨pb, po + k * 4, none⟩ = some (.int .i64 (D k)) ∧ wx.cell? ⟨pb, po + k * 4 + 1, none⟩ = some (.int .i64 (D (k + 1))))
        (first | exact HB.out _ (by assumption) | exact HB.out _ (Below.drew (by assumption)) | go_keep)
        ((go_at_call 23; refine (HRO.out k (by omega) _ (by first | assumption | exact Below.drew (by assumption))).mono ?_; rintro e w4 ⟨rfl, hb4⟩; have k4 : Below w3.heap.size w3 w4 := bt (by first | assumption | exact Below.drew (by assumption)) hb4 (Nat.le_refl _)))
      all_goals
        clear x7 x8 x6 q0 q1 kd hb4
        obtain ⟨x7, x8, x6, q0, q1⟩ := HB.out _ k4
        have kd := k4.drew
        go_wp2_with fail
        go_region_held3 (fun wx => wx.cell? ⟨w.heap.size, 7, none⟩ = some (.int .u8 wk) ∧ wx.cell? ⟨w.heap.size, 8, none⟩ = some (.slice a hs.length c) ∧ wx.cell? ⟨w.heap.size, 6, none⟩ = some (.int .u8 roll) ∧ wx.cell? ⟨pb, po + k * 4, none⟩ = some (.int .i64 (D k)) ∧ wx.cell? ⟨pb, po + k * 4 + 1, none⟩ = some (.int .i64 (D (k + 1))))
          (first | exact HB.out _ (by assumption) | exact HB.out _ (Below.drew (by assumption)) | go_keep)
          ((go_at_call 23; refine (HRO.out (k + 1) (by omega) _ (by first | assumption | exact Below.drew (by assumption))).mono ?_; rintro e w5 ⟨rfl, hb5⟩; have k5 : Below w3.heap.size w3 w5 := bt (by first | assumption | exact Below.drew (by assumption)) hb5 (Nat.le_refl _)))
        all_goals
          clear x7 x8 x6 q0 q1 kd hb5
          obtain ⟨q0, q1, q2, q3⟩ := HQ.out _ k5 k hlt
          have l1 := HL.out k hlt
          have l2 := HE.out k hlt
          rcases Nat.eq_zero_or_pos k with hz | hz
          · subst hz
            simp only [Nat.zero_mul, Nat.add_zero] at q0 q1 q2 q3
            have l3 : decide (D (0 + 1) ≤ D 0) = false := by rw [decide_eq_false_iff_not]; omega
            have l4 : decide (R (0 + 1) < R 0) = false := by rw [decide_eq_false_iff_not]; omega
            go_wp2_with fail
            go_quiet (fail)
            go_wp2_with fail
            go_quiet (fail)
            go_wp2
            go_roundw
            case rel => exact ⟨1, by omega, by go_num, below_drewN k5 _⟩
            case measure => simp [intOf]; omega
          · have l3 : decide (D (k + 1) ≤ D k) = false := by rw [decide_eq_false_iff_not]; omega
            have l4 : decide (R (k + 1) < R k) = false := by rw [decide_eq_false_iff_not]; omega
            obtain ⟨r0, r1, r2, r3⟩ := HQ.out _ k5 (k - 1) (by omega)
            rw [show k - 1 + 1 = k by omega] at r1 r3
            have n1 : IntKind.i64.wrap ((k : Int) - 1) = (k : Int) - 1 := by rw [IntKind.wrap_i64]; omega
            have n2 : ((k : Int) - 1).toNat = k - 1 := by omega
            have n3 : (0 : Int) ≤ (k : Int) - 1 := by omega
            have n4 : (k : Int) - 1 < m := by omega
            have n5 : (1 : Int) ≤ k := by omega
            have n6 : (0 : Int) < k := by omega
            have n7 : (k : Int) ≤ m := by omega
            go_wp2_with fail
            go_quiet (fail)
            go_wp2_with fail
            go_quiet (fail)
            go_wp2
            go_roundw
            case rel => exact ⟨k + 1, by omega, by go_num, below_drewN k5 _⟩
            case measure => simp [intOf]; omega
    · obtain rfl : k = m := by omega
      go_wp2
      go_ret
      exact ⟨rfl, bt c3 kb (Nat.le_refl _)⟩

end Go.Proofs.Ytainmmdlbajpnaa.Sc
