/-
  The walk of the law ScheduleInside.
-/
import Derived.Test.YtainmmdlbajpnaaScL
namespace Go.Proofs.Ytainmmdlbajpnaa.Sc
open Go.RowKit Go.Proofs.Ytainmmdlbajpnaa Go.Proofs.Ytainmmdlbajpnaa.Ls Go.Proofs.Ytainmmdlbajpnaa.Kb
open Go.Proofs.Ytainmmdlbajpnaa.Dt hiding ret_bool ret_int

theorem dres_ok {s : Sch} {L : List Int} (h : DRes s L 0) : schOK s = true := by
  rcases h with ⟨_, _, h⟩ | ⟨y, m, d, N, hY, ⟨hk, rfl, _⟩ | ⟨_, _, h⟩⟩
  · cases h
  · exact hY.ok
  · cases h

set_option maxRecDepth 100000 in
set_option maxHeartbeats 4000000 in
theorem inside_walk (s : Sch) (x : Int) {w : World} (hS : SchAt w s) (_hU : SchU s) :
    Calls Try.prog 6 #[.agg s.cells, .int .i64 x] w fun e w' => e = .returned (.bool true) ∧ Below w.heap.size w w' := by
  obtain ⟨L, g, hR⟩ := dres_exists s
  obtain ⟨fi, fe, hF⟩ := fres_exists s L g x hR
  have HF := Lib.hid hF
  have HFI := Lib.hid (fun (w' : World) (h : SchAt w' s) => find_any s L g x fi fe w' h hR hF)
  clear hF
  have HD := Lib.hid (fun (w' : World) (h : SchAt w' s) => dates_any s L g w' h hR)
  have HS := Lib.hid hS
  have HR := Lib.hid hR
  have hlen := hS.len
  clear hS hR
  have HX : Hid (s.cells = s.cells) := rfl
  obtain ⟨S, E, Mo, back, last, stub, roll, wk, a, c, hs⟩ := s
  have hx := blk_new w (.cells #[.int .i64 S, .int .i64 E, .int .i64 Mo, .bool back, .bool last, .int .u8 stub, .int .u8 roll, .int .u8 wk, .slice a hs.length c] 26)
  have hbo : Below w.heap.size w (w.alloc (.cells #[.int .i64 S, .int .i64 E, .int .i64 Mo, .bool back, .bool last, .int .u8 stub, .int .u8 roll, .int .u8 wk, .slice a hs.length c] 26)) := (Below.refl _ _).alloc (Nat.le_refl _) _
  simp only [Sch.cells] at *
  go_enter Try.func6, Try.ntmps6
  go_wp2_with fail
  generalize w.alloc _ = wo at hx hbo ⊢
  refine (alive_any wo).mono ?_
  rintro e w1 ⟨rfl, hb1⟩
  have hx := blk_keep hx hb1
  have c1 := bt hbo hb1 (Nat.le_refl _)
  have x7 := cell_of hx 7 _ rfl
  have x8 := cell_of hx 8 _ rfl
  go_wp2_with fail
  refine (great_any wk a hs.length c w1 hlen).mono ?_
  rintro e w2 ⟨rfl, hb2⟩
  have hx := blk_keep hx hb2
  have c2 := bt c1 hb2 (Nat.le_refl _)
  clear x7 x8 hb1 hb2 hbo
  rcases hb (greatB hs.length) with hg | hg
  · rw [hg]
    clear hg
    go_wp2
    go_ret
    exact ⟨rfl, c2⟩
  rw [hg]
  clear hg
  have x0 := cell_of hx 0 _ rfl
  have x1 := cell_of hx 1 _ rfl
  have x2 := cell_of hx 2 _ rfl
  have x3 := cell_of hx 3 _ rfl
  have x4 := cell_of hx 4 _ rfl
  have x5 := cell_of hx 5 _ rfl
  have x6 := cell_of hx 6 _ rfl
  have x7 := cell_of hx 7 _ rfl
  have x8 := cell_of hx 8 _ rfl
  go_wp2_with fail
  refine (HD.out w2 (HS.out.below c2)).mono ?_
  rintro e w3 ⟨da, dc, rfl, ho, hb3⟩
  have HX := Lib.hid (blk_keep hx hb3)
  have c3 := bt c2 hb3 (Nat.le_refl _)
  have HO := Lib.hid (ho.sl ic_len).1
  clear x0 x1 x2 x3 x4 x5 x6 x7 x8 hb3 hx ho HD
  have hx3 := HX.out
  have x0 := cell_of hx3 0 _ rfl
  have x1 := cell_of hx3 1 _ rfl
  have x2 := cell_of hx3 2 _ rfl
  have x3 := cell_of hx3 3 _ rfl
  have x4 := cell_of hx3 4 _ rfl
  have x5 := cell_of hx3 5 _ rfl
  have x6 := cell_of hx3 6 _ rfl
  have x7 := cell_of hx3 7 _ rfl
  have x8 := cell_of hx3 8 _ rfl
  clear hx3
  go_wp2_with fail
  refine (HFI.out w3 (HS.out.below c3)).mono ?_
  rintro e w4 ⟨rfl, hb4⟩
  have c4 := bt c3 hb4 (Nat.le_refl _)
  have HX4 := Lib.hid (blk_keep HX.out hb4)
  have HO4 := Lib.hid (HO.out.below hb4)
  clear x0 x1 x2 x3 x4 x5 x6 x7 x8 hb4 HX HO HFI
  have x0 := cell_of HX4.out 0 _ rfl
  have x1 := cell_of HX4.out 1 _ rfl
  rcases HF.out with ⟨hg, rfl, rfl⟩ | ⟨rfl, h1, rfl, rfl⟩ | ⟨rfl, h1, h2, h3, rfl, rfl⟩ | ⟨rfl, h1, h2, h3, h4, rfl, j, rfl, hj, h5, h6⟩
  · clear HF
    go_wp2
    go_ret
    exact ⟨rfl, c4⟩
  · have hOK := sch_facts (dres_ok HR.out)
    simp only at hOK
    have hlt : x < S ∨ E ≤ x := by omega
    clear HF HR
    go_wp2
    all_goals
      go_ret
      refine ⟨ret_bool ?_, c4⟩
      first
        | rfl
        | (simp; done)
        | (simp; omega)
  · clear HF HR
    simp only at h3
    go_wp2
    all_goals
      go_ret
      refine ⟨ret_bool ?_, c4⟩
      first
        | rfl
        | (simp; done)
        | (simp; omega)
  · have hL := lok_of HR.out
    clear HF HR
    simp only at h3 h4
    obtain ⟨b, off, rfl, _⟩ := at_int HO4.out 0 (by have := hL.len; omega)
    have q1 := at_int' HO4.out j (by omega)
    have q2 := at_int' HO4.out (j + 1) hj
    have hlen := hL.len
    have hj2 : (j : Int) + 1 < L.length := by omega
    clear hL
    generalize L.getD j 0 = X1 at *
    generalize L.getD (j + 1) 0 = X2 at *
    go_wp2
    all_goals
      go_ret
      refine ⟨ret_bool ?_, c4⟩
      first
        | rfl
        | (simp; done)
        | (simp; omega)

end Go.Proofs.Ytainmmdlbajpnaa.Sc
