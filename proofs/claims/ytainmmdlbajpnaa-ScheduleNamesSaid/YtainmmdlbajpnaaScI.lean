/-
  The layer's example holds: the walk of alive.
-/
import Derived.Test.YtainmmdlbajpnaaScH
namespace Go.Proofs.Ytainmmdlbajpnaa.Sc
open Go.RowKit Go.Proofs.Ytainmmdlbajpnaa Go.Proofs.Ytainmmdlbajpnaa.Ls Go.Proofs.Ytainmmdlbajpnaa.Kb
open Go.Proofs.Ytainmmdlbajpnaa.Dt hiding ret_bool ret_int

/-- reckoning at a given description -/
def cntB (y m d st : Int) (last back : Bool) (S E : Int) (N : Nat) : Bool := ((List.range N).all fun k => ok y m d st last (k + 1) && far back S E (vk y m d st last (k + 1))) && !(ok y m d st last (N + 1) && far back S E (vk y m d st last (N + 1)))
theorem cnt_of {y m d st : Int} {last back : Bool} {S E : Int} {N : Nat} (h : cntB y m d st last back S E N = true) : Cnt y m d st last back S E N := by
  unfold cntB at h
  rw [Bool.and_eq_true, List.all_eq_true] at h
  refine ⟨fun k h1 h2 => ?_, fun g => ?_⟩
  · have := h.1 (k - 1) (List.mem_range.2 (by omega))
    rw [show k - 1 + 1 = k by omega, Bool.and_eq_true] at this
    exact this
  · have := h.2
    rw [g.1, g.2] at this
    cases this
theorem dres_of (s : Sch) (y m d : Int) (N : Nat) (L : List Int) (h1 : schOK s = true) (h2 : IsDate y m d s.from) (h3 : cntB y m d s.step s.last s.back s.S s.E N = true) (h4 : N ≤ 4000) (h5 : kn s y m d N + 2 ≤ 100) (h6 : dL s y m d (kn s y m d N) = L) : DRes s L 0 :=
  .inr ⟨y, m, d, N, ⟨h1, h2, cnt_of h3, h4⟩, .inl ⟨h5, h6.symm, rfl⟩⟩

def s1 : Sch := ⟨45320, 45502, 1, false, true, 0, 0, 0, none, 0, []⟩
def s2 : Sch := ⟨45304, 45472, 2, false, false, 0, 0, 0, none, 0, []⟩
def s3 : Sch := ⟨45304, 45472, 2, false, false, 1, 0, 0, none, 0, []⟩
def s4 : Sch := ⟨45304, 45472, 2, true, false, 0, 0, 0, none, 0, []⟩
def s5 : Sch := ⟨45304, 45472, 2, true, false, 1, 0, 0, none, 0, []⟩
theorem r1 : DRes s1 [45320, 45349, 45380, 45410, 45441, 45471, 45502] 0 := dres_of s1 2024 1 31 5 _ (by decide) (by unfold IsDate; decide) (by kernel_rfl) (by omega) (by decide) (by kernel_rfl)
theorem r2 : DRes s2 [45304, 45364, 45425, 45472] 0 := dres_of s2 2024 1 15 2 _ (by decide) (by unfold IsDate; decide) (by kernel_rfl) (by omega) (by decide) (by kernel_rfl)
theorem r3 : DRes s3 [45304, 45364, 45472] 0 := dres_of s3 2024 1 15 2 _ (by decide) (by unfold IsDate; decide) (by kernel_rfl) (by omega) (by decide) (by kernel_rfl)
theorem r4 : DRes s4 [45304, 45350, 45411, 45472] 0 := dres_of s4 2024 7 1 2 _ (by decide) (by unfold IsDate; decide) (by kernel_rfl) (by omega) (by decide) (by kernel_rfl)
theorem r5 : DRes s5 [45304, 45411, 45472] 0 := dres_of s5 2024 7 1 2 _ (by decide) (by unfold IsDate; decide) (by kernel_rfl) (by omega) (by decide) (by kernel_rfl)

theorem at0 (s : Sch) (h : s.hs = []) (hm : -9223372036854775808 ≤ s.Mo ∧ s.Mo ≤ 9223372036854775807) (w : World) : SchAt w s := ⟨by rw [h]; simp [maxLen], by rw [h]; exact AtL.nil _ _ _ _, hm⟩

theorem blk_four (w : World) (a b c d : Obj) : (((((w.alloc a).alloc b).alloc c).alloc d).heap[w.heap.size]? = some a ∧ ((((w.alloc a).alloc b).alloc c).alloc d).heap[w.heap.size + 1]? = some b ∧
    ((((w.alloc a).alloc b).alloc c).alloc d).heap[w.heap.size + 1 + 1]? = some c ∧ ((((w.alloc a).alloc b).alloc c).alloc d).heap[w.heap.size + 1 + 1 + 1]? = some d) ∧ Below w.heap.size w ((((w.alloc a).alloc b).alloc c).alloc d) := by
  refine ⟨?_, (((((Below.refl _ _).alloc (Nat.le_refl _) _).alloc (by simp) _).alloc (by simp; omega) _).alloc (by simp; omega) _)⟩
  have e1 : ∀ (w : World) (o : Obj), (w.alloc o).heap = w.heap.push o := fun _ _ => rfl
  simp only [e1, Array.getElem?_push, Array.size_push]
  refine ⟨?_, ?_, ?_, ?_⟩ <;> (repeat rw [if_neg (by omega)]) <;> simp
theorem gives_yes (s : Sch) (L : List Int) (a : Option Addr) (n c : Nat) (w : World) (hS : SchAt w s) (hR : DRes s L 0) (hn : L.length = n) (hA : AtL w 1 ic a L) :
    Calls Try.prog 24 #[.agg s.cells, .slice a n c] w fun e w' => e = .returned (.bool true) ∧ Below w.heap.size w w' := by
  have h := gives_any s L L 0 a n c w hS hR hn hA
  simpa using h

set_option maxRecDepth 100000 in
set_option maxHeartbeats 2000000 in
theorem alive_any (w : World) : Calls Try.prog 10 #[] w fun e w' => e = .returned (.bool true) ∧ Below w.heap.size w w' := by
  go_enter Try.func10, Try.ntmps10
  go_wp2_with fail
  refine (two_any w).mono ?_
  rintro e wa ⟨rfl, ba⟩
  go_wp2_with fail
  refine (two_any wa).mono ?_
  rintro e wb ⟨rfl, bb⟩
  have cb := bt ba bb (Nat.le_refl _)
  clear ba bb
  go_wp2_with fail
  obtain ⟨⟨k1, k2, k3, k4⟩, b4⟩ := blk_four wb (.cells #[.int .i64 45304, .int .i64 45472, .int .i64 2, .bool false, .bool false, .int .u8 1, .int .u8 0, .int .u8 0, .slice none 0 0] 26) (.cells #[.int .i64 45304, .int .i64 45472, .int .i64 2, .bool true, .bool false, .int .u8 0, .int .u8 0, .int .u8 0, .slice none 0 0] 26) (.cells #[.int .i64 45304, .int .i64 45472, .int .i64 2, .bool true, .bool false, .int .u8 1, .int .u8 0, .int .u8 0, .slice none 0 0] 26) (.cells #[.int .i64 45320, .int .i64 45349, .int .i64 45380, .int .i64 45410, .int .i64 45441, .int .i64 45471, .int .i64 45502] 3)
  generalize (((wb.alloc _).alloc _).alloc _).alloc _ = w4 at k1 k2 k3 k4 b4 ⊢
  have c4 : Below w.heap.size w w4 := bt cb b4 (Nat.le_refl _)
  refine Calls.mono (gives_yes s1 _ (some ⟨wb.heap.size + 1 + 1 + 1, 0, none⟩) 7 7 w4 (at0 _ rfl (by decide) _) r1 rfl (atl_block _ k4 rfl)) ?_
  rintro e w5 ⟨rfl, b5⟩
  have k1 := blk_keep k1 b5
  have k2 := blk_keep k2 b5
  have k3 := blk_keep k3 b5
  have c5 := bt c4 b5 (Nat.le_refl _)
  generalize wb.heap.size = B at k1 k2 k3 ⊢
  have HK := Lib.hid (And.intro k1 (And.intro k2 k3))
  clear k1 k2 k3 k4 b4 b5 c4 cb
  go_wp2_with fail
  refine (two_any w5).mono ?_
  rintro e w6 ⟨rfl, b6⟩
  have c6 := bt c5 b6 (Nat.le_refl _)
  have HK6 := Lib.hid (And.intro (blk_keep HK.out.1 b6) (And.intro (blk_keep HK.out.2.1 b6) (blk_keep HK.out.2.2 b6)))
  clear HK c5 b6
  go_wp2_with fail
  have j1 := blk_new w6 (.cells #[.int .i64 45304, .int .i64 45364, .int .i64 45425, .int .i64 45472] 3)
  have j2 : Below w6.heap.size w6 (w6.alloc (.cells #[.int .i64 45304, .int .i64 45364, .int .i64 45425, .int .i64 45472] 3)) := (Below.refl _ _).alloc (Nat.le_refl _) _
  generalize w6.alloc _ = v6 at j1 j2 ⊢
  refine Calls.mono (gives_yes s2 _ (some ⟨w6.heap.size, 0, none⟩) 4 4 v6 (at0 _ rfl (by decide) _) r2 rfl (atl_block _ j1 rfl)) ?_
  rintro e w7 ⟨rfl, b7⟩
  have b7 := bt j2 b7 (Nat.le_refl _)
  have c7 := bt c6 b7 (Nat.le_refl _)
  have HK7 := Lib.hid (And.intro (blk_keep HK6.out.1 b7) (And.intro (blk_keep HK6.out.2.1 b7) (blk_keep HK6.out.2.2 b7)))
  clear HK6 c6 j1 j2 b7
  have x0 := cell_of HK7.out.1 0 _ rfl
  have x1 := cell_of HK7.out.1 1 _ rfl
  have x2 := cell_of HK7.out.1 2 _ rfl
  have x3 := cell_of HK7.out.1 3 _ rfl
  have x4 := cell_of HK7.out.1 4 _ rfl
  have x5 := cell_of HK7.out.1 5 _ rfl
  have x6 := cell_of HK7.out.1 6 _ rfl
  have x7 := cell_of HK7.out.1 7 _ rfl
  have x8 := cell_of HK7.out.1 8 _ rfl
  go_wp2_with fail
  have j1 := blk_new w7 (.cells #[.int .i64 45304, .int .i64 45364, .int .i64 45472] 3)
  have j2 : Below w7.heap.size w7 (w7.alloc (.cells #[.int .i64 45304, .int .i64 45364, .int .i64 45472] 3)) := (Below.refl _ _).alloc (Nat.le_refl _) _
  generalize w7.alloc _ = v7 at j1 j2 ⊢
  refine Calls.mono (gives_yes s3 _ (some ⟨w7.heap.size, 0, none⟩) 3 3 v7 (at0 _ rfl (by decide) _) r3 rfl (atl_block _ j1 rfl)) ?_
  rintro e w8 ⟨rfl, b8⟩
  have b8 := bt j2 b8 (Nat.le_refl _)
  have c8 := bt c7 b8 (Nat.le_refl _)
  have HK8 := Lib.hid (And.intro (blk_keep HK7.out.1 b8) (And.intro (blk_keep HK7.out.2.1 b8) (blk_keep HK7.out.2.2 b8)))
  clear HK7 c7 j1 j2 b8
  clear x0 x1 x2 x3 x4 x5 x6 x7 x8
  have x0 := cell_of HK8.out.2.1 0 _ rfl
  have x1 := cell_of HK8.out.2.1 1 _ rfl
  have x2 := cell_of HK8.out.2.1 2 _ rfl
  have x3 := cell_of HK8.out.2.1 3 _ rfl
  have x4 := cell_of HK8.out.2.1 4 _ rfl
  have x5 := cell_of HK8.out.2.1 5 _ rfl
  have x6 := cell_of HK8.out.2.1 6 _ rfl
  have x7 := cell_of HK8.out.2.1 7 _ rfl
  have x8 := cell_of HK8.out.2.1 8 _ rfl
  go_wp2_with fail
  have j1 := blk_new w8 (.cells #[.int .i64 45304, .int .i64 45350, .int .i64 45411, .int .i64 45472] 3)
  have j2 : Below w8.heap.size w8 (w8.alloc (.cells #[.int .i64 45304, .int .i64 45350, .int .i64 45411, .int .i64 45472] 3)) := (Below.refl _ _).alloc (Nat.le_refl _) _
  generalize w8.alloc _ = v8 at j1 j2 ⊢
  refine Calls.mono (gives_yes s4 _ (some ⟨w8.heap.size, 0, none⟩) 4 4 v8 (at0 _ rfl (by decide) _) r4 rfl (atl_block _ j1 rfl)) ?_
  rintro e w9 ⟨rfl, b9⟩
  have b9 := bt j2 b9 (Nat.le_refl _)
  have c9 := bt c8 b9 (Nat.le_refl _)
  have HK9 := Lib.hid (And.intro (blk_keep HK8.out.1 b9) (And.intro (blk_keep HK8.out.2.1 b9) (blk_keep HK8.out.2.2 b9)))
  clear HK8 c8 j1 j2 b9
  clear x0 x1 x2 x3 x4 x5 x6 x7 x8
  have x0 := cell_of HK9.out.2.2 0 _ rfl
  have x1 := cell_of HK9.out.2.2 1 _ rfl
  have x2 := cell_of HK9.out.2.2 2 _ rfl
  have x3 := cell_of HK9.out.2.2 3 _ rfl
  have x4 := cell_of HK9.out.2.2 4 _ rfl
  have x5 := cell_of HK9.out.2.2 5 _ rfl
  have x6 := cell_of HK9.out.2.2 6 _ rfl
  have x7 := cell_of HK9.out.2.2 7 _ rfl
  have x8 := cell_of HK9.out.2.2 8 _ rfl
  go_wp2_with fail
  have j1 := blk_new w9 (.cells #[.int .i64 45304, .int .i64 45411, .int .i64 45472] 3)
  have j2 : Below w9.heap.size w9 (w9.alloc (.cells #[.int .i64 45304, .int .i64 45411, .int .i64 45472] 3)) := (Below.refl _ _).alloc (Nat.le_refl _) _
  generalize w9.alloc _ = v9 at j1 j2 ⊢
  refine Calls.mono (gives_yes s5 _ (some ⟨w9.heap.size, 0, none⟩) 3 3 v9 (at0 _ rfl (by decide) _) r5 rfl (atl_block _ j1 rfl)) ?_
  rintro e w10 ⟨rfl, b10⟩
  have b10 := bt j2 b10 (Nat.le_refl _)
  have c10 := bt c9 b10 (Nat.le_refl _)
  have HK10 := Lib.hid (And.intro (blk_keep HK9.out.1 b10) (And.intro (blk_keep HK9.out.2.1 b10) (blk_keep HK9.out.2.2 b10)))
  clear HK9 c9 j1 j2 b10
  clear x0 x1 x2 x3 x4 x5 x6 x7 x8
  go_wp2
  go_ret
  exact ⟨rfl, c10⟩

end Go.Proofs.Ytainmmdlbajpnaa.Sc
