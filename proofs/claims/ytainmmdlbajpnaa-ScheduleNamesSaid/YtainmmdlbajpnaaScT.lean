/-
  The reference: the walk of Dates.
-/
import Derived.Test.YtainmmdlbajpnaaScS
namespace Go.Proofs.Ytainmmdlbajpnaa.Sc
open Go.RowKit Go.Proofs.Ytainmmdlbajpnaa Go.Proofs.Ytainmmdlbajpnaa.Ls Go.Proofs.Ytainmmdlbajpnaa.Kb
open Go.Proofs.Ytainmmdlbajpnaa.Dt hiding ret_bool ret_int

theorem take_getD (L : List Int) (k : Nat) (h : k < L.length) : L.take (k + 1) = L.take k ++ [L.getD k 0] := by
  rw [List.take_succ_eq_append_getElem h, List.getD_eq_getElem?_getD, List.getElem?_eq_getElem h]
  rfl
theorem far_own {W w9 : World} {base b : Nat} {T : TypeId} {v : Value} {xs : List Int} {o : Obj} (ho : OwnL W base T 1 ic v xs) (hg : W.grownBy w9 v.ownBlock) (h : W.heap[b]? = some o) (hb : b < base) : w9.heap[b]? = some o :=
  (hg.block b (blk_lt h) (fun e => own_ne' ho hb e.symm)).trans h

set_option maxRecDepth 100000 in
set_option maxHeartbeats 2000000 in
theorem rdates_bad (s : Sch) (w : World) (hS : SchAt w s) (h : schOK s = false) :
    Calls Try.prog 17 #[.agg s.cells] w fun e w' => e = .returned (.tuple #[.slice none 0 0, .int .i64 8]) ∧ Below w.heap.size w w' := by
  have HS := Lib.hid hS
  have HV := Lib.hid (fun (w' : World) (h : SchAt w' s) => rsch_any s w' h)
  rw [h] at HV
  clear hS h
  obtain ⟨S, E, Mo, back, last, stub, roll, wk, a, c, hs⟩ := s
  simp only [Sch.cells] at *
  have hbo : Below w.heap.size w (w.alloc (.cells #[.int .i64 S, .int .i64 E, .int .i64 Mo, .bool back, .bool last, .int .u8 stub, .int .u8 roll, .int .u8 wk, .slice a hs.length c] 26)) := (Below.refl _ _).alloc (Nat.le_refl _) _
  have hx := blk_new w (.cells #[.int .i64 S, .int .i64 E, .int .i64 Mo, .bool back, .bool last, .int .u8 stub, .int .u8 roll, .int .u8 wk, .slice a hs.length c] 26)
  go_enter Try.func17, Try.ntmps17
  go_wp2_with fail
  generalize w.alloc _ = wo at hx hbo ⊢
  refine (HV.out wo (HS.out.below hbo)).mono ?_
  rintro e w1 ⟨rfl, hb1⟩
  have c1 := bt hbo hb1 (Nat.le_refl _)
  have hx := blk_keep hx hb1
  clear hx
  go_wp2
  go_ret2
  exact ⟨rfl, c1⟩

set_option maxRecDepth 100000 in
set_option maxHeartbeats 2000000 in
theorem rdates_far (s : Sch) (y m d : Int) (N : Nat) (w : World) (hS : SchAt w s) (hY : DYes s y m d N) (hN : 100 < N) :
    Calls Try.prog 17 #[.agg s.cells] w fun e w' => e = .returned (.tuple #[.slice none 0 0, .int .i64 4]) ∧ Below w.heap.size w w' := by
  have HS := Lib.hid hS
  have HV := Lib.hid (fun (w' : World) (h : SchAt w' s) => rsch_any s w' h)
  rw [hY.ok] at HV
  have HRG := Lib.hid (fun w => regular_ref s y m d N w hY)
  have hr : regN N = 101 := by unfold regN; rw [if_neg (by omega)]
  rw [hr] at HRG
  clear hS hY hr
  obtain ⟨S, E, Mo, back, last, stub, roll, wk, a, c, hs⟩ := s
  simp only [Sch.cells] at *
  have hbo : Below w.heap.size w (w.alloc (.cells #[.int .i64 S, .int .i64 E, .int .i64 Mo, .bool back, .bool last, .int .u8 stub, .int .u8 roll, .int .u8 wk, .slice a hs.length c] 26)) := (Below.refl _ _).alloc (Nat.le_refl _) _
  have hx := blk_new w (.cells #[.int .i64 S, .int .i64 E, .int .i64 Mo, .bool back, .bool last, .int .u8 stub, .int .u8 roll, .int .u8 wk, .slice a hs.length c] 26)
  go_enter Try.func17, Try.ntmps17
  go_wp2_with fail
  generalize w.alloc _ = wo at hx hbo ⊢
  refine (HV.out wo (HS.out.below hbo)).mono ?_
  rintro e w1 ⟨rfl, hb1⟩
  have c1 := bt hbo hb1 (Nat.le_refl _)
  have hx := blk_keep hx hb1
  have x0 := cell_of hx 0 _ rfl
  have x1 := cell_of hx 1 _ rfl
  have x2 := cell_of hx 2 _ rfl
  have x3 := cell_of hx 3 _ rfl
  have x4 := cell_of hx 4 _ rfl
  have x5 := cell_of hx 5 _ rfl
  have x6 := cell_of hx 6 _ rfl
  have x7 := cell_of hx 7 _ rfl
  have x8 := cell_of hx 8 _ rfl
  go_wp2_with fail
  refine Calls.mono (HRG.out w1) ?_
  rintro e w2 ⟨rfl, hb2⟩
  have c2 := bt c1 hb2 (Nat.le_refl _)
  have hx := blk_keep hx hb2
  clear x0 x1 x2 x3 x4 x5 x6 x7 x8 hb1 hb2 hbo
  clear hx
  go_wp2
  go_ret2
  exact ⟨rfl, c2⟩

set_option maxRecDepth 100000 in
set_option maxHeartbeats 2000000 in
theorem rdates_many (s : Sch) (y m d : Int) (N : Nat) (w : World) (hS : SchAt w s) (hY : DYes s y m d N) (hN : N ≤ 100) (hk : 100 < kn s y m d N + 2) :
    Calls Try.prog 17 #[.agg s.cells] w fun e w' => e = .returned (.tuple #[.slice none 0 0, .int .i64 4]) ∧ Below w.heap.size w w' := by
  have HS := Lib.hid hS
  have HV := Lib.hid (fun (w' : World) (h : SchAt w' s) => rsch_any s w' h)
  rw [hY.ok] at HV
  have HRG := Lib.hid (fun w => regular_ref s y m d N w hY)
  have hr : regN N = N := by unfold regN; rw [if_pos hN]
  rw [hr] at HRG
  have HSB := Lib.hid (fun w => stub_ref s y m d N w hY hN)
  have HK := Lib.hid (show kn s y m d N = kept (stubB y m d s.step s.last s.other N) (decide (s.stub = 1)) N from rfl)
  generalize stubB y m d s.step s.last s.other N = b at HSB HK
  generalize kn s y m d N = n at HK hk
  clear hS hY hr
  obtain ⟨S, E, Mo, back, last, stub, roll, wk, a, c, hs⟩ := s
  simp only [Sch.cells] at *
  have hbo : Below w.heap.size w (w.alloc (.cells #[.int .i64 S, .int .i64 E, .int .i64 Mo, .bool back, .bool last, .int .u8 stub, .int .u8 roll, .int .u8 wk, .slice a hs.length c] 26)) := (Below.refl _ _).alloc (Nat.le_refl _) _
  have hx := blk_new w (.cells #[.int .i64 S, .int .i64 E, .int .i64 Mo, .bool back, .bool last, .int .u8 stub, .int .u8 roll, .int .u8 wk, .slice a hs.length c] 26)
  go_enter Try.func17, Try.ntmps17
  go_wp2_with fail
  generalize w.alloc _ = wo at hx hbo ⊢
  refine (HV.out wo (HS.out.below hbo)).mono ?_
  rintro e w1 ⟨rfl, hb1⟩
  have c1 := bt hbo hb1 (Nat.le_refl _)
  have hx := blk_keep hx hb1
  have x0 := cell_of hx 0 _ rfl
  have x1 := cell_of hx 1 _ rfl
  have x2 := cell_of hx 2 _ rfl
  have x3 := cell_of hx 3 _ rfl
  have x4 := cell_of hx 4 _ rfl
  have x5 := cell_of hx 5 _ rfl
  have x6 := cell_of hx 6 _ rfl
  have x7 := cell_of hx 7 _ rfl
  have x8 := cell_of hx 8 _ rfl
  go_wp2_with fail
  refine Calls.mono (HRG.out w1) ?_
  rintro e w2 ⟨rfl, hb2⟩
  have c2 := bt c1 hb2 (Nat.le_refl _)
  have hx := blk_keep hx hb2
  clear x0 x1 x2 x3 x4 x5 x6 x7 x8 hb1 hb2 hbo
  have h0 : 0 < N := by
    have h1 := HK.out
    unfold kept at h1
    split at h1 <;> omega
  have h0' : (0 : Int) < N := by omega
  have x0 := cell_of hx 0 _ rfl
  have x1 := cell_of hx 1 _ rfl
  have x2 := cell_of hx 2 _ rfl
  have x3 := cell_of hx 3 _ rfl
  have x4 := cell_of hx 4 _ rfl
  have x5 := cell_of hx 5 _ rfl
  have x6 := cell_of hx 6 _ rfl
  have x7 := cell_of hx 7 _ rfl
  have x8 := cell_of hx 8 _ rfl
  by_cases hs1 : stub = 1
  · subst hs1
    go_wp2_with fail
    refine Calls.mono (HSB.out w2) ?_
    rintro e w3 ⟨rfl, hb3⟩
    have c3 := bt c2 hb3 (Nat.le_refl _)
    cases b
    · have hn : n = N := by
        rw [HK.out]
        rfl
      subst hn
      go_wp2
      go_ret2
      exact ⟨rfl, c3⟩
    · have hn : n = N - 1 := by
        rw [HK.out]
        unfold kept
        rw [if_pos (by simp [h0])]
      obtain rfl : N = 100 := by omega
      clear hn h0 h0' hN HK hk
      go_wp2
      go_ret2
      exact ⟨rfl, c3⟩
  · have hn : n = N := by
      rw [HK.out]
      unfold kept
      rw [if_neg (by simp [hs1])]
    subst hn
    go_wp2
    go_ret2
    exact ⟨rfl, c2⟩

end Go.Proofs.Ytainmmdlbajpnaa.Sc
