/-
  The reference: the walk of Find; the walk of the law ScheduleFinds.
-/
import Derived.Test.YtainmmdlbajpnaaScU
import Derived.Test.YtainmmdlbajpnaaScO
namespace Go.Proofs.Ytainmmdlbajpnaa.Sc
open Go.RowKit Go.Proofs.Ytainmmdlbajpnaa Go.Proofs.Ytainmmdlbajpnaa.Ls Go.Proofs.Ytainmmdlbajpnaa.Kb
open Go.Proofs.Ytainmmdlbajpnaa.Dt hiding ret_bool ret_int

theorem srt_le {L : List Int} (h : L.Pairwise (· < ·)) (a b : Nat) (hab : a ≤ b) (hb : b < L.length) : L.getD a 0 ≤ L.getD b 0 := by
  rcases Nat.lt_or_ge a b with g | g
  · have := List.pairwise_iff_getElem.1 h a b (by omega) hb g
    rw [List.getD_eq_getElem?_getD, List.getD_eq_getElem?_getD, List.getElem?_eq_getElem (show a < L.length by omega), List.getElem?_eq_getElem hb]
    exact Int.le_of_lt this
  · obtain rfl : a = b := by omega
    exact Int.le_refl _

set_option maxRecDepth 100000 in
set_option maxHeartbeats 4000000 in
theorem rfind_any (s : Sch) (L : List Int) (g x i e : Int) (w : World) (hS : SchAt w s) (hR : DRes s L g) (hF : FRes s L g x i e) :
    Calls Try.prog 16 #[.agg s.cells, .int .i64 x] w fun o w' => o = .returned (.tuple #[.int .i64 i, .int .i64 e]) ∧ Below w.heap.size w w' := by
  have HD := Lib.hid (fun (w' : World) (h : SchAt w' s) => rdates_any s L g w' h hR)
  have HR := Lib.hid hR
  have HS := Lib.hid hS
  have HF := Lib.hid hF
  clear hS hR hF
  obtain ⟨S, E, Mo, back, last, stub, roll, wk, a, c, hs⟩ := s
  simp only [Sch.cells] at *
  have hbo : Below w.heap.size w (w.alloc (.cells #[.int .i64 S, .int .i64 E, .int .i64 Mo, .bool back, .bool last, .int .u8 stub, .int .u8 roll, .int .u8 wk, .slice a hs.length c] 26)) := (Below.refl _ _).alloc (Nat.le_refl _) _
  go_enter Try.func16, Try.ntmps16
  go_wp2_with fail
  generalize w.alloc _ = wo at hbo ⊢
  refine (HD.out wo (HS.out.below hbo)).mono ?_
  rintro o w1 ⟨da, dc, rfl, ho, hb1⟩
  have c1 := bt hbo hb1 (Nat.le_refl _)
  have HO := Lib.hid (ho.sl ic_len).1
  clear hb1 hbo ho HD HS
  rcases HF.out with ⟨hg, rfl, rfl⟩ | ⟨rfl, hx, rfl, rfl⟩ | ⟨rfl, h1, h2, h3, rfl, rfl⟩ | ⟨rfl, h1, h2, h3, h4, rfl, j, rfl, hj, h5, h6⟩
  · clear HF
    go_wp2
    go_ret2
    exact ⟨rfl, c1⟩
  · have hd : (decide (0 ≤ x) && decide (x ≤ 99999)) = false := by
      rw [Bool.and_eq_false_iff, decide_eq_false_iff_not, decide_eq_false_iff_not]
      omega
    have HDD := Lib.hid hd
    clear HF hd hx
    go_wp2_with fail
    refine (rday_any x _ HDD.out w1).mono ?_
    rintro o w2 ⟨rfl, rfl⟩
    go_wp2
    go_ret2
    exact ⟨rfl, c1⟩
  · have hL := lok_of HR.out
    have HL := Lib.hid hL
    have hln := hL.len
    simp only at h3
    have HDD := Lib.hid (show (decide (0 ≤ x) && decide (x ≤ 99999)) = true by rw [decide_eq_true h1, decide_eq_true h2]; rfl)
    have H3 : Hid (∀ k, k + 1 < L.length → x < L.getD k 0 ∨ L.getD (k + 1) 0 ≤ x) := fun k hk => by
      rcases h3 with h | h
      · left
        have := srt_le HL.out.srt 0 k (by omega) (by omega)
        rw [HL.out.first] at this
        simp only at this
        omega
      · right
        have := srt_le HL.out.srt (k + 1) (L.length - 1) (by omega) (by omega)
        rw [HL.out.last] at this
        simp only at this
        omega
    clear HF HR hL h3 h1 h2
    go_wp2_with fail
    refine (rday_any x _ HDD.out w1).mono ?_
    rintro o w2 ⟨rfl, rfl⟩
    go_wp2_with fail
    go_loopw [8] (fun i wr => ∃ k : Nat, k + 1 ≤ L.length ∧ i = .int .i64 k ∧ w1 = wr) (fun i _ => L.length - (intOf i).toNat)
    case atStart => exact ⟨0, by omega, rfl, rfl⟩
    case round =>
      obtain ⟨k, hk, rfl, rfl⟩ := hrel
      rcases Nat.lt_or_ge (k + 1) L.length with hlt | hge
      · have hki : (k : Int) + 1 < L.length := by omega
        obtain ⟨b, off, rfl, q1⟩ := at_int HO.out k (by omega)
        have q2 := at_int' HO.out (k + 1) hlt
        have h3 := H3.out k hlt
        generalize L.getD k 0 = X1 at *
        generalize L.getD (k + 1) 0 = X2 at *
        have hno : X1 ≤ x → X2 ≤ x := by omega
        by_cases hx1 : X1 ≤ x
        · have hx2 := hno hx1
          clear hno h3
          go_wp2
          go_roundw
          case rel => exact ⟨k + 1, by omega, by go_num, trivial⟩
          case measure => simp [intOf]; omega
        · clear hno h3
          go_wp2
          go_roundw
          case rel => exact ⟨k + 1, by omega, by go_num, trivial⟩
          case measure => simp [intOf]; omega
      · have hki : ¬ ((k : Int) + 1 < L.length) := by omega
        go_wp2
        go_ret2
        exact ⟨rfl, c1⟩
  · have hL := lok_of HR.out
    have HL := Lib.hid hL
    have hln := hL.len
    have HDD := Lib.hid (show (decide (0 ≤ x) && decide (x ≤ 99999)) = true by rw [decide_eq_true h1, decide_eq_true h2]; rfl)
    have H3 : Hid (∀ k, k < j → L.getD (k + 1) 0 ≤ x) := fun k hk => by
      have := srt_le HL.out.srt (k + 1) j (by omega) (by omega)
      omega
    have H5 := Lib.hid (And.intro h5 h6)
    clear HF HR hL h3 h4 h1 h2 h5 h6
    go_wp2_with fail
    refine (rday_any x _ HDD.out w1).mono ?_
    rintro o w2 ⟨rfl, rfl⟩
    go_wp2_with fail
    go_loopw [8] (fun i wr => ∃ k : Nat, k ≤ j ∧ i = .int .i64 k ∧ w1 = wr) (fun i _ => L.length - (intOf i).toNat)
    case atStart => exact ⟨0, by omega, rfl, rfl⟩
    case round =>
      obtain ⟨k, hk, rfl, rfl⟩ := hrel
      have hki : (k : Int) + 1 < L.length := by omega
      obtain ⟨b, off, rfl, q1⟩ := at_int HO.out k (by omega)
      have q2 := at_int' HO.out (k + 1) (by omega)
      rcases Nat.lt_or_ge k j with hlt | hge
      · have h3 := H3.out k hlt
        generalize L.getD k 0 = X1 at *
        generalize L.getD (k + 1) 0 = X2 at *
        go_wp2
        all_goals
          go_roundw
          case rel => exact ⟨k + 1, by omega, by go_num, trivial⟩
          case measure => simp [intOf]; omega
      · obtain rfl : k = j := by omega
        obtain ⟨h5, h6⟩ := H5.out
        generalize L.getD k 0 = X1 at *
        generalize L.getD (k + 1) 0 = X2 at *
        go_wp2
        go_ret2
        exact ⟨rfl, c1⟩

set_option maxRecDepth 100000 in
set_option maxHeartbeats 2000000 in
theorem finds_walk (s : Sch) (x : Int) {w : World} (hS : SchAt w s) (_hU : SchU s) :
    Calls Try.prog 5 #[.agg s.cells, .int .i64 x] w fun e w' => e = .returned (.bool true) ∧ Below w.heap.size w w' := by
  obtain ⟨L, g, hR⟩ := dres_exists s
  obtain ⟨i, e, hF⟩ := fres_exists s L g x hR
  have HA := Lib.hid (fun (w' : World) (h : SchAt w' s) => find_any s L g x i e w' h hR hF)
  have HB := Lib.hid (fun (w' : World) (h : SchAt w' s) => rfind_any s L g x i e w' h hR hF)
  have HS := Lib.hid hS
  have hlen := hS.len
  clear hS hR hF
  obtain ⟨S, E, Mo, back, last, stub, roll, wk, a, c, hs⟩ := s
  have hx := blk_new w (.cells #[.int .i64 S, .int .i64 E, .int .i64 Mo, .bool back, .bool last, .int .u8 stub, .int .u8 roll, .int .u8 wk, .slice a hs.length c] 26)
  have hbo : Below w.heap.size w (w.alloc (.cells #[.int .i64 S, .int .i64 E, .int .i64 Mo, .bool back, .bool last, .int .u8 stub, .int .u8 roll, .int .u8 wk, .slice a hs.length c] 26)) := (Below.refl _ _).alloc (Nat.le_refl _) _
  simp only [Sch.cells] at *
  go_enter Try.func5, Try.ntmps5
  go_wp2_with fail
  generalize w.alloc _ = wo at hx hbo ⊢
  refine (great_any wk a hs.length c wo hlen).mono ?_
  rintro o w2 ⟨rfl, hb2⟩
  have hx := blk_keep hx hb2
  have c2 := bt hbo hb2 (Nat.le_refl _)
  clear hb2 hbo
  rcases hb (greatB hs.length) with hg | hg
  · rw [hg]
    clear hg
    go_wp2
    go_ret
    exact ⟨rfl, c2⟩
  rw [hg]
  clear hg
  have x0 := cell_of hx 0 _ rfl
  have x1 := cell_of hx 1 _ rfl
  have x2 := cell_of hx 2 _ rfl
  have x3 := cell_of hx 3 _ rfl
  have x4 := cell_of hx 4 _ rfl
  have x5 := cell_of hx 5 _ rfl
  have x6 := cell_of hx 6 _ rfl
  have x7 := cell_of hx 7 _ rfl
  have x8 := cell_of hx 8 _ rfl
  go_wp2_with fail
  refine (HA.out w2 (HS.out.below c2)).mono ?_
  rintro o w3 ⟨rfl, hb3⟩
  have hx := blk_keep hx hb3
  have c3 := bt c2 hb3 (Nat.le_refl _)
  clear x0 x1 x2 x3 x4 x5 x6 x7 x8 hb3
  have x0 := cell_of hx 0 _ rfl
  have x1 := cell_of hx 1 _ rfl
  have x2 := cell_of hx 2 _ rfl
  have x3 := cell_of hx 3 _ rfl
  have x4 := cell_of hx 4 _ rfl
  have x5 := cell_of hx 5 _ rfl
  have x6 := cell_of hx 6 _ rfl
  have x7 := cell_of hx 7 _ rfl
  have x8 := cell_of hx 8 _ rfl
  go_wp2_with fail
  refine (HB.out w3 (HS.out.below c3)).mono ?_
  rintro o w4 ⟨rfl, hb4⟩
  have c4 := bt c3 hb4 (Nat.le_refl _)
  clear x0 x1 x2 x3 x4 x5 x6 x7 x8 hb4 hx
  go_wp2
  go_ret
  exact ⟨ret_bool (by simp), c4⟩

end Go.Proofs.Ytainmmdlbajpnaa.Sc
