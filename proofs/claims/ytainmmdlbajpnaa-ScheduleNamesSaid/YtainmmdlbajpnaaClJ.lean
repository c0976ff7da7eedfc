/-
  The walk of the law ScheduleTells.
-/
import Derived.Test.YtainmmdlbajpnaaClI
import Derived.Deep.RegionHeld3
namespace Go.Proofs.Ytainmmdlbajpnaa.Sc
open Go.RowKit Go.Proofs.Ytainmmdlbajpnaa Go.Proofs.Ytainmmdlbajpnaa.Ls Go.Proofs.Ytainmmdlbajpnaa.Kb
open Go.Proofs.Ytainmmdlbajpnaa.Dt hiding ret_bool ret_int

theorem same_refl (a b : Option Addr) (c d n : Nat) (xs : List Int) (w : World) (hn : xs.length = n) (hx : n ≤ maxLen) (hA : AtL w 1 ic a xs) (hB : AtL w 1 ic b xs) :
    Calls Try.prog 14 #[.slice a n c, .slice b n d] w fun e w' => e = .returned (.bool true) ∧ Below w.heap.size w w' := by
  refine (same_any a b c d n n xs xs w hn hn hx hA hB).mono ?_
  rintro e w' ⟨rfl, hb⟩
  exact ⟨ret_bool (by simp), hb⟩

theorem dres_len {s : Sch} {L : List Int} {g : Int} (h : DRes s L g) : L.length ≤ 100 := by
  rcases h with ⟨_, rfl, rfl⟩ | ⟨y, m, d, N, hY, ⟨hk, rfl, rfl⟩ | ⟨_, rfl, rfl⟩⟩
  · simp
  · rw [dl_len]
    exact hk
  · simp
theorem pres_len {s : Sch} {L : List Int} {ga g : Int} {P : List (Int × Int × Int × Int)} (h : PRes s L ga P g) : P.length ≤ 100 := by
  rcases h with ⟨_, rfl, _⟩ | ⟨_, m, D, R, E, hK, _⟩
  · simp
  · by_cases hall : ∀ i, i ≤ m → E i = 0
    · rw [(hK.ok hall).1, perL_len]
      have := hK.hi
      omega
    · have : ∃ i, i ≤ m ∧ E i = 40 := by
        refine Classical.byContradiction fun hne => hall fun i hi => ?_
        rcases hK.err i hi with h | h
        · exact h
        · exact absurd ⟨i, hi, h⟩ hne
      obtain ⟨i, hi, he⟩ := this
      rw [(hK.bad i hi he).1]
      simp

set_option maxRecDepth 100000 in
set_option maxHeartbeats 4000000 in
theorem tells_walk (s : Sch) {w : World} (hS : SchAt w s) (hU : SchU s) :
    Calls Try.prog 7 #[.agg s.cells] w fun e w' => e = .returned (.bool true) ∧ Below w.heap.size w w' := by
  obtain ⟨L, ga, hR⟩ := dres_exists s
  obtain ⟨P, g, hP⟩ := pres_exists s hU.roll.1 L ga hR
  have hl := dres_len hR
  have hpl := pres_len hP
  have HD := Lib.hid (fun (w' : World) (h : SchAt w' s) => dates_any s L ga w' h hR)
  have HRD := Lib.hid (fun (w' : World) (h : SchAt w' s) => rdates_any s L ga w' h hR)
  have HP := Lib.hid (fun (w' : World) (h : SchAt w' s) => periods_any s L ga P g h hU.wk.1 hR hP)
  have HRP := Lib.hid (fun (w' : World) (h : SchAt w' s) => rperiods_any s L ga P g h hU.wk.1 hR hP)
  have HCK := Lib.hid (fun (w' : World) (h : SchAt w' s) => check_any s w' h)
  have HVL := Lib.hid (fun (w' : World) (h : SchAt w' s) => rsch_any s w' h)
  generalize schOK s = ok at HCK HVL
  have HS := Lib.hid hS
  have hlen := hS.len
  clear hS hU hR hP
  obtain ⟨S, E, Mo, back, last, stub, roll, wk, a, c, hs⟩ := s
  simp only [Sch.cells] at *
  have hx := blk_new w (.cells #[.int .i64 S, .int .i64 E, .int .i64 Mo, .bool back, .bool last, .int .u8 stub, .int .u8 roll, .int .u8 wk, .slice a hs.length c] 26)
  have hbo : Below w.heap.size w (w.alloc (.cells #[.int .i64 S, .int .i64 E, .int .i64 Mo, .bool back, .bool last, .int .u8 stub, .int .u8 roll, .int .u8 wk, .slice a hs.length c] 26)) := (Below.refl _ _).alloc (Nat.le_refl _) _
  go_enter Try.func7, Try.ntmps7
  go_wp2_with fail
  generalize w.alloc _ = wo at hx hbo ⊢
  refine (great_any wk a hs.length c wo hlen).mono ?_
  rintro e w1 ⟨rfl, hb1⟩
  have c1 := bt hbo hb1 (Nat.le_refl _)
  have hx := blk_keep hx hb1
  have HX := Lib.hid (show ∀ wx, Below w1.heap.size w1 wx → wx.heap[w.heap.size]? = _ from fun wx h => blk_keep hx h)
  have HB := Lib.hid (show ∀ wx, Below w1.heap.size w1 wx → wx.cell? ⟨w.heap.size, 0, none⟩ = some (.int .i64 S) ∧ wx.cell? ⟨w.heap.size, 1, none⟩ = some (.int .i64 E) ∧ wx.cell? ⟨w.heap.size, 2, none⟩ = some (.int .i64 Mo) ∧ wx.cell? ⟨w.heap.size, 3, none⟩ = some (.bool back) ∧ wx.cell? ⟨w.heap.size, 4, none⟩ = some (.bool last) ∧
      wx.cell? ⟨w.heap.size, 5, none⟩ = some (.int .u8 stub) ∧ wx.cell? ⟨w.heap.size, 6, none⟩ = some (.int .u8 roll) ∧ wx.cell? ⟨w.heap.size, 7, none⟩ = some (.int .u8 wk) ∧ wx.cell? ⟨w.heap.size, 8, none⟩ = some (.slice a hs.length c) from
    fun wx h => ⟨cell_of (HX.out wx h) 0 _ rfl, cell_of (HX.out wx h) 1 _ rfl, cell_of (HX.out wx h) 2 _ rfl, cell_of (HX.out wx h) 3 _ rfl, cell_of (HX.out wx h) 4 _ rfl, cell_of (HX.out wx h) 5 _ rfl, cell_of (HX.out wx h) 6 _ rfl, cell_of (HX.out wx h) 7 _ rfl, cell_of (HX.out wx h) 8 _ rfl⟩)
  have HSS := Lib.hid (HS.out.below c1)
  clear hx HX hb1 hbo HS
  have k1 : Below w1.heap.size w1 w1 := Below.refl _ _
  rcases hb (greatB hs.length) with hg | hg
  · rw [hg]
    clear hg
    go_wp2
    go_ret
    exact ⟨rfl, c1⟩
  rw [hg]
  clear hg
  obtain ⟨x0, x1, x2, x3, x4, x5, x6, x7, x8⟩ := HB.out _ k1
  go_wp2_with fail
  refine (HD.out w1 HSS.out).mono ?_
  rintro e w2 ⟨da, dc, rfl, ho2, k2⟩
  have HA := Lib.hid (ho2.sl ic_len).1
  clear x0 x1 x2 x3 x4 x5 x6 x7 x8 ho2
  obtain ⟨x0, x1, x2, x3, x4, x5, x6, x7, x8⟩ := HB.out _ k2
  go_wp2_with fail
  refine (HRD.out w2 (HSS.out.below k2)).mono ?_
  rintro e w3 ⟨ra, rc, rfl, ho3, hb3⟩
  have k3 := bt k2 hb3 (Nat.le_refl _)
  have HA3 := Lib.hid (HA.out.below hb3)
  have HR3 := Lib.hid (ho3.sl ic_len).1
  clear x0 x1 x2 x3 x4 x5 x6 x7 x8 ho3 HA k2 hb3
  obtain ⟨x0, x1, x2, x3, x4, x5, x6, x7, x8⟩ := HB.out _ k3
  go_wp2_with fail
  refine (HP.out w3 (HSS.out.below k3)).mono ?_
  rintro e w4 ⟨pa, pc', rfl, ho4, hb4⟩
  have k4 := bt k3 hb4 (Nat.le_refl _)
  have HA4 := Lib.hid (HA3.out.below hb4)
  have HR4 := Lib.hid (HR3.out.below hb4)
  have HQ4 := Lib.hid (ho4.sl pqc_len).1
  clear x0 x1 x2 x3 x4 x5 x6 x7 x8 ho4 HA3 HR3 k3 hb4
  obtain ⟨x0, x1, x2, x3, x4, x5, x6, x7, x8⟩ := HB.out _ k4
  go_wp2_with fail
  refine (HRP.out w4 (HSS.out.below k4)).mono ?_
  rintro e w5 ⟨qa, qc', rfl, ho5, hb5⟩
  have k5 := bt k4 hb5 (Nat.le_refl _)
  have HA5 := Lib.hid (HA4.out.below hb5)
  have HR5 := Lib.hid (HR4.out.below hb5)
  have HQ5 := Lib.hid (HQ4.out.below hb5)
  have HT5 := Lib.hid (ho5.sl pqc_len).1
  clear x0 x1 x2 x3 x4 x5 x6 x7 x8 ho5 HA4 HR4 HQ4 k4 hb5
  obtain ⟨x0, x1, x2, x3, x4, x5, x6, x7, x8⟩ := HB.out _ k5
  have kd := k5.drew
  have r5 : Below w5.heap.size w5 w5 := Below.refl _ _
  have rd := r5.drew
  have c5 := bt c1 k5 (Nat.le_refl _)
  have hl2 : L.length ≤ maxLen := by unfold maxLen; omega
  have hpl2 : P.length ≤ maxLen := by unfold maxLen; omega
  go_wp2_with fail
  cases ok
  all_goals
    dsimp only [eV] at HCK
    go_region_held3 (fun wx => wx.cell? ⟨w.heap.size, 0, none⟩ = some (.int .i64 S) ∧ wx.cell? ⟨w.heap.size, 1, none⟩ = some (.int .i64 E) ∧ wx.cell? ⟨w.heap.size, 2, none⟩ = some (.int .i64 Mo) ∧ wx.cell? ⟨w.heap.size, 3, none⟩ = some (.bool back) ∧ wx.cell? ⟨w.heap.size, 4, none⟩ = some (.bool last) ∧
      wx.cell? ⟨w.heap.size, 5, none⟩ = some (.int .u8 stub) ∧ wx.cell? ⟨w.heap.size, 6, none⟩ = some (.int .u8 roll) ∧ wx.cell? ⟨w.heap.size, 7, none⟩ = some (.int .u8 wk) ∧ wx.cell? ⟨w.heap.size, 8, none⟩ = some (.slice a hs.length c))
      (first | exact HB.out _ (by assumption) | exact HB.out _ (Below.drew (by assumption)) | go_keep)
      (first
        | (go_at_call 14; refine (same_refl da ra dc rc _ L _ rfl hl2 (HA5.out.below (by first | assumption | exact Below.drew (by assumption))) (HR5.out.below (by first | assumption | exact Below.drew (by assumption)))).mono ?_; rintro e w6 ⟨rfl, hb6⟩; have r6 : Below w5.heap.size w5 w6 := bt (by first | assumption | exact Below.drew (by assumption)) hb6 (Nat.le_refl _); have k6 : Below w1.heap.size w1 w6 := bt k5 r6 (Nat.le_refl _))
        | (go_at_call 20; refine (sameP_any pa qa pc' qc' _ P _ rfl hpl2 (HQ5.out.below (by first | assumption | exact Below.drew (by assumption))) (HT5.out.below (by first | assumption | exact Below.drew (by assumption)))).mono ?_; rintro e w7 ⟨rfl, hb7⟩; have r7 : Below w5.heap.size w5 w7 := bt (by first | assumption | exact Below.drew (by assumption)) hb7 (Nat.le_refl _); have k7 : Below w1.heap.size w1 w7 := bt k5 r7 (Nat.le_refl _))
        | (go_at_call 21; refine (HCK.out _ (HSS.out.below (by first | assumption | exact Below.drew (by assumption)))).mono ?_; rintro e w8 ⟨rfl, hb8⟩; have r8 : Below w5.heap.size w5 w8 := bt (by first | assumption | exact Below.drew (by assumption)) hb8 (Nat.le_refl _); have k8 : Below w1.heap.size w1 w8 := bt k5 r8 (Nat.le_refl _))
        | (go_at_call 22; refine (HVL.out _ (HSS.out.below (by first | assumption | exact Below.drew (by assumption)))).mono ?_; rintro e w9 ⟨rfl, hb9⟩; have r9 : Below w5.heap.size w5 w9 := bt (by first | assumption | exact Below.drew (by assumption)) hb9 (Nat.le_refl _); have k9 : Below w1.heap.size w1 w9 := bt k5 r9 (Nat.le_refl _)))
    all_goals
      go_wp2
      go_ret
      refine ⟨ret_bool (by simp), ?_⟩
      first | exact bt c1 k9 (Nat.le_refl _) | exact bt c1 k8 (Nat.le_refl _)

end Go.Proofs.Ytainmmdlbajpnaa.Sc
