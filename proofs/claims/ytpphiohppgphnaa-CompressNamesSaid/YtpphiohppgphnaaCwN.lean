/-
  Compress: the walk of the law CompressNames.
-/
import Derived.Test.YtpphiohppgphnaaCwM
namespace Go.Proofs.Ytpphiohppgphnaa.Cs
open Go.RowKit Go.Proofs.Ytpphiohppgphnaa Go.Proofs.Ytpphiohppgphnaa.Ls Go.Proofs.Ytpphiohppgphnaa.Kb Go.Proofs.Ytpphiohppgphnaa.Cz
open Go.Proofs.Ytpphiohppgphnaa.Nm hiding ret_bool ret_int hb'

set_option maxRecDepth 100000 in
set_option maxHeartbeats 8000000 in
theorem names_walk (W : World) : Calls Try.prog 5 #[] W fun e w' => e = .returned (.bool true) ∧ Below W.heap.size W w' := by
  go_enter Try.func5, Try.ntmps5
  have B0 := Lib.hid (Below.refl W.heap.size W)
  go_wp2_with fail
  refine (owes_any ⟨#[97]⟩ ⟨#[97]⟩ 1 W).mono ?_
  rintro e w1 ⟨rfl, hb⟩
  have B1 := Lib.hid (bt B0.out hb (Nat.le_refl _))
  clear hb B0
  have hal := (Below.refl w1.heap.size w1).alloc (Nat.le_refl _) (.cells #[.string ⟨#[97]⟩, .string ⟨#[97]⟩, .string ⟨#[99]⟩, .int .i64 1] 31)
  have hnw := blk_at w1 (.cells #[.string ⟨#[97]⟩, .string ⟨#[97]⟩, .string ⟨#[99]⟩, .int .i64 1] 31) (g := w1.heap.size) (by simp)
  have B2 := Lib.hid (bt B1.out hal (Nat.le_refl _))
  have HX0_2 := Lib.hid (show AtL (w1.alloc (.cells #[.string ⟨#[97]⟩, .string ⟨#[97]⟩, .string ⟨#[99]⟩, .int .i64 1] 31)) 4 trc (some ⟨w1.heap.size, 0, none⟩) [owes #[97] #[97] 1] from at_blk trc_len hnw rfl)
  clear hal hnw B1
  go_wp2_with fail
  refine (owes_any ⟨#[97]⟩ ⟨#[98]⟩ 0 (w1.alloc (.cells #[.string ⟨#[97]⟩, .string ⟨#[97]⟩, .string ⟨#[99]⟩, .int .i64 1] 31))).mono ?_
  rintro e w3 ⟨rfl, hb⟩
  have B3 := Lib.hid (bt B2.out hb (Nat.le_refl _))
  have HX0_3 := Lib.hid (HX0_2.out.below hb)
  clear hb B2 HX0_2
  have hal := (Below.refl w3.heap.size w3).alloc (Nat.le_refl _) (.cells #[.string ⟨#[97]⟩, .string ⟨#[98]⟩, .string ⟨#[99]⟩, .int .i64 0] 31)
  have hnw := blk_at w3 (.cells #[.string ⟨#[97]⟩, .string ⟨#[98]⟩, .string ⟨#[99]⟩, .int .i64 0] 31) (g := w3.heap.size) (by simp)
  have B4 := Lib.hid (bt B3.out hal (Nat.le_refl _))
  have HX0_4 := Lib.hid (HX0_3.out.below hal)
  have HX1_4 := Lib.hid (show AtL (w3.alloc (.cells #[.string ⟨#[97]⟩, .string ⟨#[98]⟩, .string ⟨#[99]⟩, .int .i64 0] 31)) 4 trc (some ⟨w3.heap.size, 0, none⟩) [owes #[97] #[98] 0] from at_blk trc_len hnw rfl)
  clear hal hnw B3 HX0_3
  go_wp2_with fail
  refine (owes_any ⟨#[97]⟩ ⟨#[98]⟩ 1125899906842625 (w3.alloc (.cells #[.string ⟨#[97]⟩, .string ⟨#[98]⟩, .string ⟨#[99]⟩, .int .i64 0] 31))).mono ?_
  rintro e w5 ⟨rfl, hb⟩
  have B5 := Lib.hid (bt B4.out hb (Nat.le_refl _))
  have HX0_5 := Lib.hid (HX0_4.out.below hb)
  have HX1_5 := Lib.hid (HX1_4.out.below hb)
  clear hb B4 HX0_4 HX1_4
  have hal := (Below.refl w5.heap.size w5).alloc (Nat.le_refl _) (.cells #[.string ⟨#[97]⟩, .string ⟨#[98]⟩, .string ⟨#[99]⟩, .int .i64 1125899906842625] 31)
  have hnw := blk_at w5 (.cells #[.string ⟨#[97]⟩, .string ⟨#[98]⟩, .string ⟨#[99]⟩, .int .i64 1125899906842625] 31) (g := w5.heap.size) (by simp)
  have B6 := Lib.hid (bt B5.out hal (Nat.le_refl _))
  have HX0_6 := Lib.hid (HX0_5.out.below hal)
  have HX1_6 := Lib.hid (HX1_5.out.below hal)
  have HX2_6 := Lib.hid (show AtL (w5.alloc (.cells #[.string ⟨#[97]⟩, .string ⟨#[98]⟩, .string ⟨#[99]⟩, .int .i64 1125899906842625] 31)) 4 trc (some ⟨w5.heap.size, 0, none⟩) [owes #[97] #[98] 1125899906842625] from at_blk trc_len hnw rfl)
  clear hal hnw B5 HX0_5 HX1_5
  go_wp2_with fail
  refine (owes_any ⟨#[]⟩ ⟨#[98]⟩ 1 (w5.alloc (.cells #[.string ⟨#[97]⟩, .string ⟨#[98]⟩, .string ⟨#[99]⟩, .int .i64 1125899906842625] 31))).mono ?_
  rintro e w7 ⟨rfl, hb⟩
  have B7 := Lib.hid (bt B6.out hb (Nat.le_refl _))
  have HX0_7 := Lib.hid (HX0_6.out.below hb)
  have HX1_7 := Lib.hid (HX1_6.out.below hb)
  have HX2_7 := Lib.hid (HX2_6.out.below hb)
  clear hb B6 HX0_6 HX1_6 HX2_6
  have hal := (Below.refl w7.heap.size w7).alloc (Nat.le_refl _) (.cells #[.string ⟨#[]⟩, .string ⟨#[98]⟩, .string ⟨#[99]⟩, .int .i64 1] 31)
  have hnw := blk_at w7 (.cells #[.string ⟨#[]⟩, .string ⟨#[98]⟩, .string ⟨#[99]⟩, .int .i64 1] 31) (g := w7.heap.size) (by simp)
  have B8 := Lib.hid (bt B7.out hal (Nat.le_refl _))
  have HX0_8 := Lib.hid (HX0_7.out.below hal)
  have HX1_8 := Lib.hid (HX1_7.out.below hal)
  have HX2_8 := Lib.hid (HX2_7.out.below hal)
  have HX3_8 := Lib.hid (show AtL (w7.alloc (.cells #[.string ⟨#[]⟩, .string ⟨#[98]⟩, .string ⟨#[99]⟩, .int .i64 1] 31)) 4 trc (some ⟨w7.heap.size, 0, none⟩) [owes #[] #[98] 1] from at_blk trc_len hnw rfl)
  clear hal hnw B7 HX0_7 HX1_7 HX2_7
  go_wp2_with fail
  refine (owes_any ⟨#[97]⟩ ⟨#[49]⟩ 1 (w7.alloc (.cells #[.string ⟨#[]⟩, .string ⟨#[98]⟩, .string ⟨#[99]⟩, .int .i64 1] 31))).mono ?_
  rintro e w9 ⟨rfl, hb⟩
  have B9 := Lib.hid (bt B8.out hb (Nat.le_refl _))
  have HX0_9 := Lib.hid (HX0_8.out.below hb)
  have HX1_9 := Lib.hid (HX1_8.out.below hb)
  have HX2_9 := Lib.hid (HX2_8.out.below hb)
  have HX3_9 := Lib.hid (HX3_8.out.below hb)
  clear hb B8 HX0_8 HX1_8 HX2_8 HX3_8
  have hal := (Below.refl w9.heap.size w9).alloc (Nat.le_refl _) (.cells #[.string ⟨#[97]⟩, .string ⟨#[49]⟩, .string ⟨#[99]⟩, .int .i64 1] 31)
  have hnw := blk_at w9 (.cells #[.string ⟨#[97]⟩, .string ⟨#[49]⟩, .string ⟨#[99]⟩, .int .i64 1] 31) (g := w9.heap.size) (by simp)
  have B10 := Lib.hid (bt B9.out hal (Nat.le_refl _))
  have HX0_10 := Lib.hid (HX0_9.out.below hal)
  have HX1_10 := Lib.hid (HX1_9.out.below hal)
  have HX2_10 := Lib.hid (HX2_9.out.below hal)
  have HX3_10 := Lib.hid (HX3_9.out.below hal)
  have HX4_10 := Lib.hid (show AtL (w9.alloc (.cells #[.string ⟨#[97]⟩, .string ⟨#[49]⟩, .string ⟨#[99]⟩, .int .i64 1] 31)) 4 trc (some ⟨w9.heap.size, 0, none⟩) [owes #[97] #[49] 1] from at_blk trc_len hnw rfl)
  clear hal hnw B9 HX0_9 HX1_9 HX2_9 HX3_9
  go_wp2_with fail
  refine (owes_any ⟨#[97]⟩ ⟨#[98]⟩ 1 (w9.alloc (.cells #[.string ⟨#[97]⟩, .string ⟨#[49]⟩, .string ⟨#[99]⟩, .int .i64 1] 31))).mono ?_
  rintro e w11 ⟨rfl, hb⟩
  have B11 := Lib.hid (bt B10.out hb (Nat.le_refl _))
  have HX0_11 := Lib.hid (HX0_10.out.below hb)
  have HX1_11 := Lib.hid (HX1_10.out.below hb)
  have HX2_11 := Lib.hid (HX2_10.out.below hb)
  have HX3_11 := Lib.hid (HX3_10.out.below hb)
  have HX4_11 := Lib.hid (HX4_10.out.below hb)
  clear hb B10 HX0_10 HX1_10 HX2_10 HX3_10 HX4_10
  go_wp2_with fail
  refine (owes_any ⟨#[97]⟩ ⟨#[98]⟩ 2 w11).mono ?_
  rintro e w12 ⟨rfl, hb⟩
  have B12 := Lib.hid (bt B11.out hb (Nat.le_refl _))
  have HX0_12 := Lib.hid (HX0_11.out.below hb)
  have HX1_12 := Lib.hid (HX1_11.out.below hb)
  have HX2_12 := Lib.hid (HX2_11.out.below hb)
  have HX3_12 := Lib.hid (HX3_11.out.below hb)
  have HX4_12 := Lib.hid (HX4_11.out.below hb)
  clear hb B11 HX0_11 HX1_11 HX2_11 HX3_11 HX4_11
  have hal := (Below.refl w12.heap.size w12).alloc (Nat.le_refl _) (.cells #[.string ⟨#[97]⟩, .string ⟨#[98]⟩, .string ⟨#[99]⟩, .int .i64 1, .string ⟨#[97]⟩, .string ⟨#[98]⟩, .string ⟨#[99]⟩, .int .i64 2] 31)
  have hnw := blk_at w12 (.cells #[.string ⟨#[97]⟩, .string ⟨#[98]⟩, .string ⟨#[99]⟩, .int .i64 1, .string ⟨#[97]⟩, .string ⟨#[98]⟩, .string ⟨#[99]⟩, .int .i64 2] 31) (g := w12.heap.size) (by simp)
  have B13 := Lib.hid (bt B12.out hal (Nat.le_refl _))
  have HX0_13 := Lib.hid (HX0_12.out.below hal)
  have HX1_13 := Lib.hid (HX1_12.out.below hal)
  have HX2_13 := Lib.hid (HX2_12.out.below hal)
  have HX3_13 := Lib.hid (HX3_12.out.below hal)
  have HX4_13 := Lib.hid (HX4_12.out.below hal)
  have HX5_13 := Lib.hid (show AtL (w12.alloc (.cells #[.string ⟨#[97]⟩, .string ⟨#[98]⟩, .string ⟨#[99]⟩, .int .i64 1, .string ⟨#[97]⟩, .string ⟨#[98]⟩, .string ⟨#[99]⟩, .int .i64 2] 31)) 4 trc (some ⟨w12.heap.size, 0, none⟩) [owes #[97] #[98] 1, owes #[97] #[98] 2] from at_blk trc_len hnw rfl)
  clear hal hnw B12 HX0_12 HX1_12 HX2_12 HX3_12 HX4_12
  go_wp2_with fail
  refine (owes_any ⟨#[98]⟩ ⟨#[97]⟩ 1 (w12.alloc (.cells #[.string ⟨#[97]⟩, .string ⟨#[98]⟩, .string ⟨#[99]⟩, .int .i64 1, .string ⟨#[97]⟩, .string ⟨#[98]⟩, .string ⟨#[99]⟩, .int .i64 2] 31))).mono ?_
  rintro e w14 ⟨rfl, hb⟩
  have B14 := Lib.hid (bt B13.out hb (Nat.le_refl _))
  have HX0_14 := Lib.hid (HX0_13.out.below hb)
  have HX1_14 := Lib.hid (HX1_13.out.below hb)
  have HX2_14 := Lib.hid (HX2_13.out.below hb)
  have HX3_14 := Lib.hid (HX3_13.out.below hb)
  have HX4_14 := Lib.hid (HX4_13.out.below hb)
  have HX5_14 := Lib.hid (HX5_13.out.below hb)
  clear hb B13 HX0_13 HX1_13 HX2_13 HX3_13 HX4_13 HX5_13
  go_wp2_with fail
  refine (owes_any ⟨#[97]⟩ ⟨#[98]⟩ 2 w14).mono ?_
  rintro e w15 ⟨rfl, hb⟩
  have B15 := Lib.hid (bt B14.out hb (Nat.le_refl _))
  have HX0_15 := Lib.hid (HX0_14.out.below hb)
  have HX1_15 := Lib.hid (HX1_14.out.below hb)
  have HX2_15 := Lib.hid (HX2_14.out.below hb)
  have HX3_15 := Lib.hid (HX3_14.out.below hb)
  have HX4_15 := Lib.hid (HX4_14.out.below hb)
  have HX5_15 := Lib.hid (HX5_14.out.below hb)
  clear hb B14 HX0_14 HX1_14 HX2_14 HX3_14 HX4_14 HX5_14
  have hal := (Below.refl w15.heap.size w15).alloc (Nat.le_refl _) (.cells #[.string ⟨#[98]⟩, .string ⟨#[97]⟩, .string ⟨#[99]⟩, .int .i64 1, .string ⟨#[97]⟩, .string ⟨#[98]⟩, .string ⟨#[99]⟩, .int .i64 2] 31)
  have hnw := blk_at w15 (.cells #[.string ⟨#[98]⟩, .string ⟨#[97]⟩, .string ⟨#[99]⟩, .int .i64 1, .string ⟨#[97]⟩, .string ⟨#[98]⟩, .string ⟨#[99]⟩, .int .i64 2] 31) (g := w15.heap.size) (by simp)
  have B16 := Lib.hid (bt B15.out hal (Nat.le_refl _))
  have HX0_16 := Lib.hid (HX0_15.out.below hal)
  have HX1_16 := Lib.hid (HX1_15.out.below hal)
  have HX2_16 := Lib.hid (HX2_15.out.below hal)
  have HX3_16 := Lib.hid (HX3_15.out.below hal)
  have HX4_16 := Lib.hid (HX4_15.out.below hal)
  have HX5_16 := Lib.hid (HX5_15.out.below hal)
  have HX6_16 := Lib.hid (show AtL (w15.alloc (.cells #[.string ⟨#[98]⟩, .string ⟨#[97]⟩, .string ⟨#[99]⟩, .int .i64 1, .string ⟨#[97]⟩, .string ⟨#[98]⟩, .string ⟨#[99]⟩, .int .i64 2] 31)) 4 trc (some ⟨w15.heap.size, 0, none⟩) [owes #[98] #[97] 1, owes #[97] #[98] 2] from at_blk trc_len hnw rfl)
  clear hal hnw B15 HX0_15 HX1_15 HX2_15 HX3_15 HX4_15 HX5_15
  have hal := (Below.refl (w15.alloc (.cells #[.string ⟨#[98]⟩, .string ⟨#[97]⟩, .string ⟨#[99]⟩, .int .i64 1, .string ⟨#[97]⟩, .string ⟨#[98]⟩, .string ⟨#[99]⟩, .int .i64 2] 31)).heap.size (w15.alloc (.cells #[.string ⟨#[98]⟩, .string ⟨#[97]⟩, .string ⟨#[99]⟩, .int .i64 1, .string ⟨#[97]⟩, .string ⟨#[98]⟩, .string ⟨#[99]⟩, .int .i64 2] 31))).alloc (Nat.le_refl _) (.cells #[.string ⟨#[97]⟩, .string ⟨#[98]⟩, .string ⟨#[]⟩, .int .i64 1] 31)
  have hnw := blk_at (w15.alloc (.cells #[.string ⟨#[98]⟩, .string ⟨#[97]⟩, .string ⟨#[99]⟩, .int .i64 1, .string ⟨#[97]⟩, .string ⟨#[98]⟩, .string ⟨#[99]⟩, .int .i64 2] 31)) (.cells #[.string ⟨#[97]⟩, .string ⟨#[98]⟩, .string ⟨#[]⟩, .int .i64 1] 31) (g := w15.heap.size + 1) (by simp)
  have B17 := Lib.hid (bt B16.out hal (Nat.le_refl _))
  have HX0_17 := Lib.hid (HX0_16.out.below hal)
  have HX1_17 := Lib.hid (HX1_16.out.below hal)
  have HX2_17 := Lib.hid (HX2_16.out.below hal)
  have HX3_17 := Lib.hid (HX3_16.out.below hal)
  have HX4_17 := Lib.hid (HX4_16.out.below hal)
  have HX5_17 := Lib.hid (HX5_16.out.below hal)
  have HX6_17 := Lib.hid (HX6_16.out.below hal)
  have HX7_17 := Lib.hid (show AtL ((w15.alloc (.cells #[.string ⟨#[98]⟩, .string ⟨#[97]⟩, .string ⟨#[99]⟩, .int .i64 1, .string ⟨#[97]⟩, .string ⟨#[98]⟩, .string ⟨#[99]⟩, .int .i64 2] 31)).alloc (.cells #[.string ⟨#[97]⟩, .string ⟨#[98]⟩, .string ⟨#[]⟩, .int .i64 1] 31)) 4 trc (some ⟨w15.heap.size + 1, 0, none⟩) [⟨⟨#[97]⟩, ⟨#[98]⟩, ⟨#[]⟩, 1⟩] from at_blk trc_len hnw rfl)
  clear hal hnw B16 HX0_16 HX1_16 HX2_16 HX3_16 HX4_16 HX5_16 HX6_16
  have hal := (Below.refl ((w15.alloc (.cells #[.string ⟨#[98]⟩, .string ⟨#[97]⟩, .string ⟨#[99]⟩, .int .i64 1, .string ⟨#[97]⟩, .string ⟨#[98]⟩, .string ⟨#[99]⟩, .int .i64 2] 31)).alloc (.cells #[.string ⟨#[97]⟩, .string ⟨#[98]⟩, .string ⟨#[]⟩, .int .i64 1] 31)).heap.size ((w15.alloc (.cells #[.string ⟨#[98]⟩, .string ⟨#[97]⟩, .string ⟨#[99]⟩, .int .i64 1, .string ⟨#[97]⟩, .string ⟨#[98]⟩, .string ⟨#[99]⟩, .int .i64 2] 31)).alloc (.cells #[.string ⟨#[97]⟩, .string ⟨#[98]⟩, .string ⟨#[]⟩, .int .i64 1] 31))).alloc (Nat.le_refl _) (.cells #[.slice (some ⟨w1.heap.size, 0, none⟩) 1 1, .slice (some ⟨w3.heap.size, 0, none⟩) 1 1, .slice (some ⟨w5.heap.size, 0, none⟩) 1 1, .slice (some ⟨w7.heap.size, 0, none⟩) 1 1, .slice (some ⟨w9.heap.size, 0, none⟩) 1 1, .slice (some ⟨w12.heap.size, 0, none⟩) 2 2, .slice (some ⟨w15.heap.size, 0, none⟩) 2 2, .slice (some ⟨w15.heap.size + 1, 0, none⟩) 1 1] 22)
  have hnw := blk_at ((w15.alloc (.cells #[.string ⟨#[98]⟩, .string ⟨#[97]⟩, .string ⟨#[99]⟩, .int .i64 1, .string ⟨#[97]⟩, .string ⟨#[98]⟩, .string ⟨#[99]⟩, .int .i64 2] 31)).alloc (.cells #[.string ⟨#[97]⟩, .string ⟨#[98]⟩, .string ⟨#[]⟩, .int .i64 1] 31)) (.cells #[.slice (some ⟨w1.heap.size, 0, none⟩) 1 1, .slice (some ⟨w3.heap.size, 0, none⟩) 1 1, .slice (some ⟨w5.heap.size, 0, none⟩) 1 1, .slice (some ⟨w7.heap.size, 0, none⟩) 1 1, .slice (some ⟨w9.heap.size, 0, none⟩) 1 1, .slice (some ⟨w12.heap.size, 0, none⟩) 2 2, .slice (some ⟨w15.heap.size, 0, none⟩) 2 2, .slice (some ⟨w15.heap.size + 1, 0, none⟩) 1 1] 22) (g := w15.heap.size + 1 + 1) (by simp)
  obtain ⟨XX, hXX⟩ : ∃ X, X = w15.heap.size + 1 + 1 := ⟨_, rfl⟩
  have B18 := Lib.hid (bt B17.out hal (Nat.le_refl _))
  have HX0_18 := Lib.hid (HX0_17.out.below hal)
  have HX1_18 := Lib.hid (HX1_17.out.below hal)
  have HX2_18 := Lib.hid (HX2_17.out.below hal)
  have HX3_18 := Lib.hid (HX3_17.out.below hal)
  have HX4_18 := Lib.hid (HX4_17.out.below hal)
  have HX5_18 := Lib.hid (HX5_17.out.below hal)
  have HX6_18 := Lib.hid (HX6_17.out.below hal)
  have HX7_18 := Lib.hid (HX7_17.out.below hal)
  rw [← hXX] at hnw
  have HBD := Lib.hid (show BadM XX (((w15.alloc (.cells #[.string ⟨#[98]⟩, .string ⟨#[97]⟩, .string ⟨#[99]⟩, .int .i64 1, .string ⟨#[97]⟩, .string ⟨#[98]⟩, .string ⟨#[99]⟩, .int .i64 2] 31)).alloc (.cells #[.string ⟨#[97]⟩, .string ⟨#[98]⟩, .string ⟨#[]⟩, .int .i64 1] 31)).alloc (.cells #[.slice (some ⟨w1.heap.size, 0, none⟩) 1 1, .slice (some ⟨w3.heap.size, 0, none⟩) 1 1, .slice (some ⟨w5.heap.size, 0, none⟩) 1 1, .slice (some ⟨w7.heap.size, 0, none⟩) 1 1, .slice (some ⟨w9.heap.size, 0, none⟩) 1 1, .slice (some ⟨w12.heap.size, 0, none⟩) 2 2, .slice (some ⟨w15.heap.size, 0, none⟩) 2 2, .slice (some ⟨w15.heap.size + 1, 0, none⟩) 1 1] 22)) from bad_mem hnw HX0_18.out HX1_18.out HX2_18.out HX3_18.out HX4_18.out HX5_18.out HX6_18.out HX7_18.out)
  go_wp2_with fail
  rw [← hXX]
  clear hal hnw hXX B17 HX0_17 HX1_17 HX2_17 HX3_17 HX4_17 HX5_17 HX6_17 HX7_17 HX0_18 HX1_18 HX2_18 HX3_18 HX4_18 HX5_18 HX6_18 HX7_18
  generalize World.alloc _ (.cells #[.slice (some ⟨w1.heap.size, 0, none⟩) 1 1, .slice (some ⟨w3.heap.size, 0, none⟩) 1 1, .slice (some ⟨w5.heap.size, 0, none⟩) 1 1, .slice (some ⟨w7.heap.size, 0, none⟩) 1 1, .slice (some ⟨w9.heap.size, 0, none⟩) 1 1, .slice (some ⟨w12.heap.size, 0, none⟩) 2 2, .slice (some ⟨w15.heap.size, 0, none⟩) 2 2, .slice (some ⟨w15.heap.size + 1, 0, none⟩) 1 1] 22) = wb at HBD B18 ⊢
  go_loopw [1, 3, 4, 5, 6, 7, 52] (fun ok _ _ _ _ _ i wr => ok = .bool true ∧ ∃ K : Nat, K ≤ 8 ∧ i = .int .i64 K ∧ Hid (Below W.heap.size W wr) ∧ Hid (BadM XX wr)) (fun _ _ _ _ _ _ i _ => 8 - (intOf i).toNat)
  case atStart => exact ⟨rfl, 0, by omega, rfl, B18, HBD⟩
  case round =>
    clear HBD B18
    obtain ⟨rfl, K, hK, rfl, HB, HBD⟩ := hrel
    rcases Nat.lt_or_ge K 8 with hlt | hge
    · have hki : (K : Int) < 8 := by omega
      have hk0 : (0 : Int) ≤ (K : Int) := by omega
      obtain ⟨a1, l1, hc1, hA1, hch, hsz, hln⟩ := HBD.out K hlt
      have HA1 := Lib.hid hA1
      have HCH := Lib.hid hch
      have HSZ := Lib.hid hsz
      have HCM := Lib.hid (fun (v : World) (hv : AtL v 4 trc a1 l1) => compress_n a1 l1.length l1.length 0 l1 [] 8 v rfl rfl (by omega) HSZ.out hv (by have := ComR.bad (l := l1) (by rw [HCH.out]; decide); rw [HCH.out] at this; exact this))
      have HNT := Lib.hid (fun (v : World) (hv : AtL v 4 trc a1 l1) => net_n a1 l1.length l1.length l1 ⟨#[]⟩ ⟨#[]⟩ 0 8 v rfl (by omega) HSZ.out (by decide) (by decide) hv (bad_net HCH.out))
      have HCK := Lib.hid (fun (v : World) (hv : AtL v 4 trc a1 l1) => check_n a1 l1.length l1.length l1 8 v rfl (by omega) HSZ.out hv HCH.out)
      clear hA1 hch hsz hln
      go_wp2_with fail
      refine (HCM.out wr HA1.out).mono ?_
      rintro e w1 ⟨a', c', rfl, _, hb⟩
      have HB1 := Lib.hid (bt HB.out hb (Nat.le_refl _))
      have HA2 := Lib.hid (HA1.out.below hb)
      have HBD1 := Lib.hid (HBD.out.below hb)
      clear hb HB HA1 HBD hc1
      go_wp2_with fail
      refine (HNT.out w1 HA2.out).mono ?_
      rintro e w2 ⟨rfl, hb⟩
      have HB2 := Lib.hid (bt HB1.out hb (Nat.le_refl _))
      have HA3 := Lib.hid (HA2.out.below hb)
      have HBD2 := Lib.hid (HBD1.out.below hb)
      clear hb HB1 HA2 HBD1
      go_wp2_with fail
      refine (HCK.out w2 HA3.out).mono ?_
      rintro e w3 ⟨rfl, hb⟩
      have HB3 := Lib.hid (bt HB2.out hb (Nat.le_refl _))
      have HBD3 := Lib.hid (HBD2.out.below hb)
      clear hb HB2 HA3 HBD2
      go_wp2_with fail
      go_roundw
      case rel => exact ⟨rfl, K + 1, by omega, by go_num, HB3, HBD3⟩
      case measure => simp [intOf]; omega
    · obtain rfl : K = 8 := by omega
      clear HBD
      go_wp2_with fail
      refine (owes_any ⟨#[97]⟩ ⟨#[98]⟩ 1125899906842624 wr).mono ?_
      rintro e w19 ⟨rfl, hb⟩
      have B19 := Lib.hid (bt HB.out hb (Nat.le_refl _))
      clear hb HB
      go_wp2_with fail
      refine (owes_any ⟨#[98]⟩ ⟨#[97]⟩ 1125899906842624 w19).mono ?_
      rintro e w20 ⟨rfl, hb⟩
      have B20 := Lib.hid (bt B19.out hb (Nat.le_refl _))
      clear hb B19
      have hal := (Below.refl w20.heap.size w20).alloc (Nat.le_refl _) (.cells #[.string ⟨#[97]⟩, .string ⟨#[98]⟩, .string ⟨#[99]⟩, .int .i64 1125899906842624, .string ⟨#[98]⟩, .string ⟨#[97]⟩, .string ⟨#[99]⟩, .int .i64 1125899906842624] 31)
      have hnw := blk_at w20 (.cells #[.string ⟨#[97]⟩, .string ⟨#[98]⟩, .string ⟨#[99]⟩, .int .i64 1125899906842624, .string ⟨#[98]⟩, .string ⟨#[97]⟩, .string ⟨#[99]⟩, .int .i64 1125899906842624] 31) (g := w20.heap.size) (by simp)
      have B21 := Lib.hid (bt B20.out hal (Nat.le_refl _))
      have HP_21 := Lib.hid (show AtL (w20.alloc (.cells #[.string ⟨#[97]⟩, .string ⟨#[98]⟩, .string ⟨#[99]⟩, .int .i64 1125899906842624, .string ⟨#[98]⟩, .string ⟨#[97]⟩, .string ⟨#[99]⟩, .int .i64 1125899906842624] 31)) 4 trc (some ⟨w20.heap.size, 0, none⟩) pair from at_blk trc_len hnw rfl)
      clear hal hnw B20
      go_wp2_with fail
      refine (compress_n none 0 0 0 [] [] 0 (w20.alloc (.cells #[.string ⟨#[97]⟩, .string ⟨#[98]⟩, .string ⟨#[99]⟩, .int .i64 1125899906842624, .string ⟨#[98]⟩, .string ⟨#[97]⟩, .string ⟨#[99]⟩, .int .i64 1125899906842624] 31)) rfl rfl (by decide) (by decide) (AtL.nil _ _ _ _) nil_com).mono ?_
      rintro e w22 ⟨na, nc, rfl, _, hb⟩
      have B22 := Lib.hid (bt B21.out hb (Nat.le_refl _))
      have HP_22 := Lib.hid (HP_21.out.below hb)
      clear hb B21 HP_21
      go_wp2_with fail
      refine (cycle_n none 0 0 0 [] [] 6 w22 rfl rfl (by decide) (by decide) (AtL.nil _ _ _ _) nil_cyc).mono ?_
      rintro e w23 ⟨ca, cc, rfl, _, hb⟩
      have B23 := Lib.hid (bt B22.out hb (Nat.le_refl _))
      have HP_23 := Lib.hid (HP_22.out.below hb)
      clear hb B22 HP_22
      go_wp2_with fail
      refine (owes_any ⟨#[97]⟩ ⟨#[98]⟩ 1 w23).mono ?_
      rintro e w24 ⟨rfl, hb⟩
      have B24 := Lib.hid (bt B23.out hb (Nat.le_refl _))
      have HP_24 := Lib.hid (HP_23.out.below hb)
      clear hb B23 HP_23
      have hal := (Below.refl w24.heap.size w24).alloc (Nat.le_refl _) (.cells #[.string ⟨#[97]⟩, .string ⟨#[98]⟩, .string ⟨#[99]⟩, .int .i64 1, .string ⟨#[98]⟩, .string ⟨#[97]⟩, .string ⟨#[100]⟩, .int .i64 1] 31)
      have hnw := blk_at w24 (.cells #[.string ⟨#[97]⟩, .string ⟨#[98]⟩, .string ⟨#[99]⟩, .int .i64 1, .string ⟨#[98]⟩, .string ⟨#[97]⟩, .string ⟨#[100]⟩, .int .i64 1] 31) (g := w24.heap.size) (by simp)
      have B25 := Lib.hid (bt B24.out hal (Nat.le_refl _))
      have HP_25 := Lib.hid (HP_24.out.below hal)
      have HT_25 := Lib.hid (show AtL (w24.alloc (.cells #[.string ⟨#[97]⟩, .string ⟨#[98]⟩, .string ⟨#[99]⟩, .int .i64 1, .string ⟨#[98]⟩, .string ⟨#[97]⟩, .string ⟨#[100]⟩, .int .i64 1] 31)) 4 trc (some ⟨w24.heap.size, 0, none⟩) twoC from at_blk trc_len hnw rfl)
      clear hal hnw B24 HP_24
      go_wp2_with fail
      refine (cycle_n (some ⟨w24.heap.size, 0, none⟩) 2 2 0 twoC [] 6 (w24.alloc (.cells #[.string ⟨#[97]⟩, .string ⟨#[98]⟩, .string ⟨#[99]⟩, .int .i64 1, .string ⟨#[98]⟩, .string ⟨#[97]⟩, .string ⟨#[100]⟩, .int .i64 1] 31)) rfl rfl (by decide) (by decide) HT_25.out two_cyc).mono ?_
      rintro e w26 ⟨ta, tc, rfl, _, hb⟩
      have B26 := Lib.hid (bt B25.out hb (Nat.le_refl _))
      have HP_26 := Lib.hid (HP_25.out.below hb)
      have HT_26 := Lib.hid (HT_25.out.below hb)
      clear hb B25 HP_25 HT_25
      clear HT_26
      have hmk := make_tr
      go_wp2_with fail
      have hal := (Below.refl w26.heap.size w26).alloc (Nat.le_refl _) (.cells zz 31)
      have hnw := blk_new w26 (.cells zz 31)
      have B27 := Lib.hid (bt B26.out hal (Nat.le_refl _))
      have HP_27 := Lib.hid (HP_26.out.below hal)
      have HZ := Lib.hid (show AtL (w26.alloc (.cells zz 31)) 4 trc (some ⟨w26.heap.size, 0, none⟩) (List.replicate 201 t0) from at_blk trc_len hnw zz_list)
      clear hal hnw hmk B26 HP_26
      go_wp2_with fail
      refine (gross_n (some ⟨w26.heap.size, 0, none⟩) 201 201 (List.replicate 201 t0) 0 4 (w26.alloc (.cells zz 31)) (List.length_replicate ..) (by decide) zz_sz HZ.out zz_gro).mono ?_
      rintro e w28 ⟨rfl, hb⟩
      have B28 := Lib.hid (bt B27.out hb (Nat.le_refl _))
      have HP_28 := Lib.hid (HP_27.out.below hb)
      have HZ_28 := Lib.hid (HZ.out.below hb)
      clear hb B27 HP_27 HZ
      clear HZ_28
      go_wp2_with fail
      refine (net_n (some ⟨w20.heap.size, 0, none⟩) 2 2 pair ⟨#[97]⟩ ⟨#[49]⟩ 0 2 w28 rfl (by decide) (by decide) (by decide) (by decide) HP_28.out (by decide +kernel)).mono ?_
      rintro e w29 ⟨rfl, hb⟩
      have B29 := Lib.hid (bt B28.out hb (Nat.le_refl _))
      have HP_29 := Lib.hid (HP_28.out.below hb)
      clear hb B28 HP_28
      go_wp2_with fail
      refine (net_n (some ⟨w20.heap.size, 0, none⟩) 2 2 pair ⟨#[122]⟩ ⟨#[99]⟩ 0 0 w29 rfl (by decide) (by decide) (by decide) (by decide) HP_29.out pair_net2).mono ?_
      rintro e w30 ⟨rfl, hb⟩
      have B30 := Lib.hid (bt B29.out hb (Nat.le_refl _))
      have HP_30 := Lib.hid (HP_29.out.below hb)
      clear hb B29 HP_29
      go_wp2_with fail
      refine (gross_n (some ⟨w20.heap.size, 0, none⟩) 2 2 pair 2251799813685248 0 w30 rfl (by decide) (szT_dec (by decide)) HP_30.out pair_gro).mono ?_
      rintro e w31 ⟨rfl, hb⟩
      have B31 := Lib.hid (bt B30.out hb (Nat.le_refl _))
      have HP_31 := Lib.hid (HP_30.out.below hb)
      clear hb B30 HP_30
      go_wp2_with fail
      refine (owes_any ⟨#[97]⟩ ⟨#[98]⟩ 3 w31).mono ?_
      rintro e w32 ⟨rfl, hb⟩
      have B32 := Lib.hid (bt B31.out hb (Nat.le_refl _))
      have HP_32 := Lib.hid (HP_31.out.below hb)
      clear hb B31 HP_31
      go_wp2_with fail
      refine (owes_any ⟨#[98]⟩ ⟨#[99]⟩ 2 w32).mono ?_
      rintro e w33 ⟨rfl, hb⟩
      have B33 := Lib.hid (bt B32.out hb (Nat.le_refl _))
      have HP_33 := Lib.hid (HP_32.out.below hb)
      clear hb B32 HP_32
      go_wp2_with fail
      refine (owes_any ⟨#[98]⟩ ⟨#[100]⟩ 2 w33).mono ?_
      rintro e w34 ⟨rfl, hb⟩
      have B34 := Lib.hid (bt B33.out hb (Nat.le_refl _))
      have HP_34 := Lib.hid (HP_33.out.below hb)
      clear hb B33 HP_33
      go_wp2_with fail
      refine (owes_any ⟨#[99]⟩ ⟨#[101]⟩ 2 w34).mono ?_
      rintro e w35 ⟨rfl, hb⟩
      have B35 := Lib.hid (bt B34.out hb (Nat.le_refl _))
      have HP_35 := Lib.hid (HP_34.out.below hb)
      clear hb B34 HP_34
      go_wp2_with fail
      refine (owes_any ⟨#[100]⟩ ⟨#[97]⟩ 2 w35).mono ?_
      rintro e w36 ⟨rfl, hb⟩
      have B36 := Lib.hid (bt B35.out hb (Nat.le_refl _))
      have HP_36 := Lib.hid (HP_35.out.below hb)
      clear hb B35 HP_35
      go_wp2_with fail
      refine (owes_any ⟨#[101]⟩ ⟨#[97]⟩ 2 w36).mono ?_
      rintro e w37 ⟨rfl, hb⟩
      have B37 := Lib.hid (bt B36.out hb (Nat.le_refl _))
      have HP_37 := Lib.hid (HP_36.out.below hb)
      clear hb B36 HP_36
      have hal := (Below.refl w37.heap.size w37).alloc (Nat.le_refl _) (.cells #[.string ⟨#[97]⟩, .string ⟨#[98]⟩, .string ⟨#[99]⟩, .int .i64 3, .string ⟨#[98]⟩, .string ⟨#[99]⟩, .string ⟨#[99]⟩, .int .i64 2, .string ⟨#[98]⟩, .string ⟨#[100]⟩, .string ⟨#[99]⟩, .int .i64 2, .string ⟨#[99]⟩, .string ⟨#[101]⟩, .string ⟨#[99]⟩, .int .i64 2, .string ⟨#[100]⟩, .string ⟨#[97]⟩, .string ⟨#[99]⟩, .int .i64 2, .string ⟨#[101]⟩, .string ⟨#[97]⟩, .string ⟨#[99]⟩, .int .i64 2] 31)
      have hnw := blk_at w37 (.cells #[.string ⟨#[97]⟩, .string ⟨#[98]⟩, .string ⟨#[99]⟩, .int .i64 3, .string ⟨#[98]⟩, .string ⟨#[99]⟩, .string ⟨#[99]⟩, .int .i64 2, .string ⟨#[98]⟩, .string ⟨#[100]⟩, .string ⟨#[99]⟩, .int .i64 2, .string ⟨#[99]⟩, .string ⟨#[101]⟩, .string ⟨#[99]⟩, .int .i64 2, .string ⟨#[100]⟩, .string ⟨#[97]⟩, .string ⟨#[99]⟩, .int .i64 2, .string ⟨#[101]⟩, .string ⟨#[97]⟩, .string ⟨#[99]⟩, .int .i64 2] 31) (g := w37.heap.size) (by simp)
      have B38 := Lib.hid (bt B37.out hal (Nat.le_refl _))
      have HP_38 := Lib.hid (HP_37.out.below hal)
      have HS_38 := Lib.hid (show AtL (w37.alloc (.cells #[.string ⟨#[97]⟩, .string ⟨#[98]⟩, .string ⟨#[99]⟩, .int .i64 3, .string ⟨#[98]⟩, .string ⟨#[99]⟩, .string ⟨#[99]⟩, .int .i64 2, .string ⟨#[98]⟩, .string ⟨#[100]⟩, .string ⟨#[99]⟩, .int .i64 2, .string ⟨#[99]⟩, .string ⟨#[101]⟩, .string ⟨#[99]⟩, .int .i64 2, .string ⟨#[100]⟩, .string ⟨#[97]⟩, .string ⟨#[99]⟩, .int .i64 2, .string ⟨#[101]⟩, .string ⟨#[97]⟩, .string ⟨#[99]⟩, .int .i64 2] 31)) 4 trc (some ⟨w37.heap.size, 0, none⟩) shortL from at_blk trc_len hnw rfl)
      clear hal hnw B37 HP_37
      go_wp2_with fail
      refine (cycle_n (some ⟨w37.heap.size, 0, none⟩) 6 6 3 shortL [0, 2, 4] 0 (w37.alloc (.cells #[.string ⟨#[97]⟩, .string ⟨#[98]⟩, .string ⟨#[99]⟩, .int .i64 3, .string ⟨#[98]⟩, .string ⟨#[99]⟩, .string ⟨#[99]⟩, .int .i64 2, .string ⟨#[98]⟩, .string ⟨#[100]⟩, .string ⟨#[99]⟩, .int .i64 2, .string ⟨#[99]⟩, .string ⟨#[101]⟩, .string ⟨#[99]⟩, .int .i64 2, .string ⟨#[100]⟩, .string ⟨#[97]⟩, .string ⟨#[99]⟩, .int .i64 2, .string ⟨#[101]⟩, .string ⟨#[97]⟩, .string ⟨#[99]⟩, .int .i64 2] 31)) rfl rfl (by decide) (by decide) HS_38.out short_cyc).mono ?_
      rintro e w39 ⟨sa, sc, rfl, hc, hb⟩
      have B39 := Lib.hid (bt B38.out hb (Nat.le_refl _))
      have HP_39 := Lib.hid (HP_38.out.below hb)
      have HS_39 := Lib.hid (HS_38.out.below hb)
      have HSC_39 := Lib.hid hc
      clear hb hc B38 HP_38 HS_38
      go_wp2_with fail
      refine (owes_any ⟨#[97]⟩ ⟨#[98]⟩ 1 w39).mono ?_
      rintro e w40 ⟨rfl, hb⟩
      have B40 := Lib.hid (bt B39.out hb (Nat.le_refl _))
      have HP_40 := Lib.hid (HP_39.out.below hb)
      have HS_40 := Lib.hid (HS_39.out.below hb)
      have HSC_40 := Lib.hid (HSC_39.out.below hb)
      clear hb B39 HP_39 HS_39 HSC_39
      go_wp2_with fail
      refine (owes_any ⟨#[98]⟩ ⟨#[99]⟩ 1 w40).mono ?_
      rintro e w41 ⟨rfl, hb⟩
      have B41 := Lib.hid (bt B40.out hb (Nat.le_refl _))
      have HP_41 := Lib.hid (HP_40.out.below hb)
      have HS_41 := Lib.hid (HS_40.out.below hb)
      have HSC_41 := Lib.hid (HSC_40.out.below hb)
      clear hb B40 HP_40 HS_40 HSC_40
      go_wp2_with fail
      refine (owes_any ⟨#[98]⟩ ⟨#[100]⟩ 1 w41).mono ?_
      rintro e w42 ⟨rfl, hb⟩
      have B42 := Lib.hid (bt B41.out hb (Nat.le_refl _))
      have HP_42 := Lib.hid (HP_41.out.below hb)
      have HS_42 := Lib.hid (HS_41.out.below hb)
      have HSC_42 := Lib.hid (HSC_41.out.below hb)
      clear hb B41 HP_41 HS_41 HSC_41
      go_wp2_with fail
      refine (owes_any ⟨#[99]⟩ ⟨#[97]⟩ 1 w42).mono ?_
      rintro e w43 ⟨rfl, hb⟩
      have B43 := Lib.hid (bt B42.out hb (Nat.le_refl _))
      have HP_43 := Lib.hid (HP_42.out.below hb)
      have HS_43 := Lib.hid (HS_42.out.below hb)
      have HSC_43 := Lib.hid (HSC_42.out.below hb)
      clear hb B42 HP_42 HS_42 HSC_42
      go_wp2_with fail
      refine (owes_any ⟨#[100]⟩ ⟨#[97]⟩ 1 w43).mono ?_
      rintro e w44 ⟨rfl, hb⟩
      have B44 := Lib.hid (bt B43.out hb (Nat.le_refl _))
      have HP_44 := Lib.hid (HP_43.out.below hb)
      have HS_44 := Lib.hid (HS_43.out.below hb)
      have HSC_44 := Lib.hid (HSC_43.out.below hb)
      clear hb B43 HP_43 HS_43 HSC_43
      have hal := (Below.refl w44.heap.size w44).alloc (Nat.le_refl _) (.cells #[.string ⟨#[97]⟩, .string ⟨#[98]⟩, .string ⟨#[99]⟩, .int .i64 1, .string ⟨#[98]⟩, .string ⟨#[99]⟩, .string ⟨#[99]⟩, .int .i64 1, .string ⟨#[98]⟩, .string ⟨#[100]⟩, .string ⟨#[99]⟩, .int .i64 1, .string ⟨#[99]⟩, .string ⟨#[97]⟩, .string ⟨#[99]⟩, .int .i64 1, .string ⟨#[100]⟩, .string ⟨#[97]⟩, .string ⟨#[99]⟩, .int .i64 1] 31)
      have hnw := blk_at w44 (.cells #[.string ⟨#[97]⟩, .string ⟨#[98]⟩, .string ⟨#[99]⟩, .int .i64 1, .string ⟨#[98]⟩, .string ⟨#[99]⟩, .string ⟨#[99]⟩, .int .i64 1, .string ⟨#[98]⟩, .string ⟨#[100]⟩, .string ⟨#[99]⟩, .int .i64 1, .string ⟨#[99]⟩, .string ⟨#[97]⟩, .string ⟨#[99]⟩, .int .i64 1, .string ⟨#[100]⟩, .string ⟨#[97]⟩, .string ⟨#[99]⟩, .int .i64 1] 31) (g := w44.heap.size) (by simp)
      have B45 := Lib.hid (bt B44.out hal (Nat.le_refl _))
      have HP_45 := Lib.hid (HP_44.out.below hal)
      have HS_45 := Lib.hid (HS_44.out.below hal)
      have HSC_45 := Lib.hid (HSC_44.out.below hal)
      have HA_45 := Lib.hid (show AtL (w44.alloc (.cells #[.string ⟨#[97]⟩, .string ⟨#[98]⟩, .string ⟨#[99]⟩, .int .i64 1, .string ⟨#[98]⟩, .string ⟨#[99]⟩, .string ⟨#[99]⟩, .int .i64 1, .string ⟨#[98]⟩, .string ⟨#[100]⟩, .string ⟨#[99]⟩, .int .i64 1, .string ⟨#[99]⟩, .string ⟨#[97]⟩, .string ⟨#[99]⟩, .int .i64 1, .string ⟨#[100]⟩, .string ⟨#[97]⟩, .string ⟨#[99]⟩, .int .i64 1] 31)) 4 trc (some ⟨w44.heap.size, 0, none⟩) alikeL from at_blk trc_len hnw rfl)
      clear hal hnw B44 HP_44 HS_44 HSC_44
      go_wp2_with fail
      refine (cycle_n (some ⟨w44.heap.size, 0, none⟩) 5 5 3 alikeL [0, 1, 3] 0 (w44.alloc (.cells #[.string ⟨#[97]⟩, .string ⟨#[98]⟩, .string ⟨#[99]⟩, .int .i64 1, .string ⟨#[98]⟩, .string ⟨#[99]⟩, .string ⟨#[99]⟩, .int .i64 1, .string ⟨#[98]⟩, .string ⟨#[100]⟩, .string ⟨#[99]⟩, .int .i64 1, .string ⟨#[99]⟩, .string ⟨#[97]⟩, .string ⟨#[99]⟩, .int .i64 1, .string ⟨#[100]⟩, .string ⟨#[97]⟩, .string ⟨#[99]⟩, .int .i64 1] 31)) rfl rfl (by decide) (by decide) HA_45.out alike_cyc).mono ?_
      rintro e w46 ⟨la, lc, rfl, hc, hb⟩
      have B46 := Lib.hid (bt B45.out hb (Nat.le_refl _))
      have HP_46 := Lib.hid (HP_45.out.below hb)
      have HS_46 := Lib.hid (HS_45.out.below hb)
      have HSC_46 := Lib.hid (HSC_45.out.below hb)
      have HA_46 := Lib.hid (HA_45.out.below hb)
      have HAC_46 := Lib.hid hc
      clear hb hc B45 HP_45 HS_45 HSC_45 HA_45
      clear HA_46
      go_wp2_with fail
      refine (owes_any ⟨#[97]⟩ ⟨#[98]⟩ 1 w46).mono ?_
      rintro e w47 ⟨rfl, hb⟩
      have B47 := Lib.hid (bt B46.out hb (Nat.le_refl _))
      have HP_47 := Lib.hid (HP_46.out.below hb)
      have HS_47 := Lib.hid (HS_46.out.below hb)
      have HSC_47 := Lib.hid (HSC_46.out.below hb)
      have HAC_47 := Lib.hid (HAC_46.out.below hb)
      clear hb B46 HP_46 HS_46 HSC_46 HAC_46
      go_wp2_with fail
      refine (owes_any ⟨#[98]⟩ ⟨#[99]⟩ 1 w47).mono ?_
      rintro e w48 ⟨rfl, hb⟩
      have B48 := Lib.hid (bt B47.out hb (Nat.le_refl _))
      have HP_48 := Lib.hid (HP_47.out.below hb)
      have HS_48 := Lib.hid (HS_47.out.below hb)
      have HSC_48 := Lib.hid (HSC_47.out.below hb)
      have HAC_48 := Lib.hid (HAC_47.out.below hb)
      clear hb B47 HP_47 HS_47 HSC_47 HAC_47
      go_wp2_with fail
      refine (owes_any ⟨#[99]⟩ ⟨#[98]⟩ 1 w48).mono ?_
      rintro e w49 ⟨rfl, hb⟩
      have B49 := Lib.hid (bt B48.out hb (Nat.le_refl _))
      have HP_49 := Lib.hid (HP_48.out.below hb)
      have HS_49 := Lib.hid (HS_48.out.below hb)
      have HSC_49 := Lib.hid (HSC_48.out.below hb)
      have HAC_49 := Lib.hid (HAC_48.out.below hb)
      clear hb B48 HP_48 HS_48 HSC_48 HAC_48
      have hal := (Below.refl w49.heap.size w49).alloc (Nat.le_refl _) (.cells #[.string ⟨#[97]⟩, .string ⟨#[98]⟩, .string ⟨#[99]⟩, .int .i64 1, .string ⟨#[98]⟩, .string ⟨#[99]⟩, .string ⟨#[99]⟩, .int .i64 1, .string ⟨#[99]⟩, .string ⟨#[98]⟩, .string ⟨#[99]⟩, .int .i64 1] 31)
      have hnw := blk_at w49 (.cells #[.string ⟨#[97]⟩, .string ⟨#[98]⟩, .string ⟨#[99]⟩, .int .i64 1, .string ⟨#[98]⟩, .string ⟨#[99]⟩, .string ⟨#[99]⟩, .int .i64 1, .string ⟨#[99]⟩, .string ⟨#[98]⟩, .string ⟨#[99]⟩, .int .i64 1] 31) (g := w49.heap.size) (by simp)
      have B50 := Lib.hid (bt B49.out hal (Nat.le_refl _))
      have HP_50 := Lib.hid (HP_49.out.below hal)
      have HS_50 := Lib.hid (HS_49.out.below hal)
      have HSC_50 := Lib.hid (HSC_49.out.below hal)
      have HAC_50 := Lib.hid (HAC_49.out.below hal)
      have HR_50 := Lib.hid (show AtL (w49.alloc (.cells #[.string ⟨#[97]⟩, .string ⟨#[98]⟩, .string ⟨#[99]⟩, .int .i64 1, .string ⟨#[98]⟩, .string ⟨#[99]⟩, .string ⟨#[99]⟩, .int .i64 1, .string ⟨#[99]⟩, .string ⟨#[98]⟩, .string ⟨#[99]⟩, .int .i64 1] 31)) 4 trc (some ⟨w49.heap.size, 0, none⟩) laterL from at_blk trc_len hnw rfl)
      clear hal hnw B49 HP_49 HS_49 HSC_49 HAC_49
      go_wp2_with fail
      refine (cycle_n (some ⟨w49.heap.size, 0, none⟩) 3 3 2 laterL [1, 2] 0 (w49.alloc (.cells #[.string ⟨#[97]⟩, .string ⟨#[98]⟩, .string ⟨#[99]⟩, .int .i64 1, .string ⟨#[98]⟩, .string ⟨#[99]⟩, .string ⟨#[99]⟩, .int .i64 1, .string ⟨#[99]⟩, .string ⟨#[98]⟩, .string ⟨#[99]⟩, .int .i64 1] 31)) rfl rfl (by decide) (by decide) HR_50.out later_cyc).mono ?_
      rintro e w51 ⟨ra, rc, rfl, hc, hb⟩
      have B51 := Lib.hid (bt B50.out hb (Nat.le_refl _))
      have HP_51 := Lib.hid (HP_50.out.below hb)
      have HS_51 := Lib.hid (HS_50.out.below hb)
      have HSC_51 := Lib.hid (HSC_50.out.below hb)
      have HAC_51 := Lib.hid (HAC_50.out.below hb)
      have HR_51 := Lib.hid (HR_50.out.below hb)
      have HRC_51 := Lib.hid hc
      clear hb hc B50 HP_50 HS_50 HSC_50 HAC_50 HR_50
      go_wp2_with fail
      refine (alive_any w51).mono ?_
      rintro e w52 ⟨rfl, hb⟩
      have B52 := Lib.hid (bt B51.out hb (Nat.le_refl _))
      have HP_52 := Lib.hid (HP_51.out.below hb)
      have HS_52 := Lib.hid (HS_51.out.below hb)
      have HSC_52 := Lib.hid (HSC_51.out.below hb)
      have HAC_52 := Lib.hid (HAC_51.out.below hb)
      have HR_52 := Lib.hid (HR_51.out.below hb)
      have HRC_52 := Lib.hid (HRC_51.out.below hb)
      clear hb B51 HP_51 HS_51 HSC_51 HAC_51 HR_51 HRC_51
      go_wp2_with fail
      refine (gives_any (some ⟨w20.heap.size, 0, none⟩) none 2 0 2 0 pair [] w52 rfl rfl (by decide) (by decide) (by decide) HP_52.out (AtL.nil _ _ _ _) pair_com).mono ?_
      rintro e w53 ⟨rfl, hb⟩
      have B53 := Lib.hid (bt B52.out hb (Nat.le_refl _))
      have HP_53 := Lib.hid (HP_52.out.below hb)
      have HS_53 := Lib.hid (HS_52.out.below hb)
      have HSC_53 := Lib.hid (HSC_52.out.below hb)
      have HAC_53 := Lib.hid (HAC_52.out.below hb)
      have HR_53 := Lib.hid (HR_52.out.below hb)
      have HRC_53 := Lib.hid (HRC_52.out.below hb)
      clear hb B52 HP_52 HS_52 HSC_52 HAC_52 HR_52 HRC_52
      clear HP_53
      go_wp2_with fail
      have hal := (Below.refl w53.heap.size w53).alloc (Nat.le_refl _) (.cells #[.int .i64 0, .int .i64 2, .int .i64 4] 3)
      have hnw := blk_at w53 (.cells #[.int .i64 0, .int .i64 2, .int .i64 4] 3) (g := w53.heap.size) (by simp)
      have B54 := Lib.hid (bt B53.out hal (Nat.le_refl _))
      have HS_54 := Lib.hid (HS_53.out.below hal)
      have HSC_54 := Lib.hid (HSC_53.out.below hal)
      have HAC_54 := Lib.hid (HAC_53.out.below hal)
      have HR_54 := Lib.hid (HR_53.out.below hal)
      have HRC_54 := Lib.hid (HRC_53.out.below hal)
      have HI_54 := Lib.hid (show AtL (w53.alloc (.cells #[.int .i64 0, .int .i64 2, .int .i64 4] 3)) 1 ic (some ⟨w53.heap.size, 0, none⟩) (il [0, 2, 4]) from at_blk ic_len hnw rfl)
      clear hal hnw B53 HS_53 HSC_53 HAC_53 HR_53 HRC_53
      go_wp2_with fail
      refine (sints_n sa (some ⟨w53.heap.size, 0, none⟩) sc 3 3 3 (il [0, 2, 4]) (w53.alloc (.cells #[.int .i64 0, .int .i64 2, .int .i64 4] 3)) rfl rfl (by decide) HSC_54.out HI_54.out).mono ?_
      rintro e w55 ⟨rfl, hb⟩
      have B55 := Lib.hid (bt B54.out hb (Nat.le_refl _))
      have HS_55 := Lib.hid (HS_54.out.below hb)
      have HSC_55 := Lib.hid (HSC_54.out.below hb)
      have HAC_55 := Lib.hid (HAC_54.out.below hb)
      have HR_55 := Lib.hid (HR_54.out.below hb)
      have HRC_55 := Lib.hid (HRC_54.out.below hb)
      have HI_55 := Lib.hid (HI_54.out.below hb)
      clear hb B54 HS_54 HSC_54 HAC_54 HR_54 HRC_54 HI_54
      clear HSC_55
      clear HI_55
      go_wp2_with fail
      refine (owes_any ⟨#[98]⟩ ⟨#[99]⟩ 1 w55).mono ?_
      rintro e w56 ⟨rfl, hb⟩
      have B56 := Lib.hid (bt B55.out hb (Nat.le_refl _))
      have HS_56 := Lib.hid (HS_55.out.below hb)
      have HAC_56 := Lib.hid (HAC_55.out.below hb)
      have HR_56 := Lib.hid (HR_55.out.below hb)
      have HRC_56 := Lib.hid (HRC_55.out.below hb)
      clear hb B55 HS_55 HAC_55 HR_55 HRC_55
      go_wp2_with fail
      refine (owes_any ⟨#[99]⟩ ⟨#[101]⟩ 1 w56).mono ?_
      rintro e w57 ⟨rfl, hb⟩
      have B57 := Lib.hid (bt B56.out hb (Nat.le_refl _))
      have HS_57 := Lib.hid (HS_56.out.below hb)
      have HAC_57 := Lib.hid (HAC_56.out.below hb)
      have HR_57 := Lib.hid (HR_56.out.below hb)
      have HRC_57 := Lib.hid (HRC_56.out.below hb)
      clear hb B56 HS_56 HAC_56 HR_56 HRC_56
      go_wp2_with fail
      refine (owes_any ⟨#[101]⟩ ⟨#[97]⟩ 1 w57).mono ?_
      rintro e w58 ⟨rfl, hb⟩
      have B58 := Lib.hid (bt B57.out hb (Nat.le_refl _))
      have HS_58 := Lib.hid (HS_57.out.below hb)
      have HAC_58 := Lib.hid (HAC_57.out.below hb)
      have HR_58 := Lib.hid (HR_57.out.below hb)
      have HRC_58 := Lib.hid (HRC_57.out.below hb)
      clear hb B57 HS_57 HAC_57 HR_57 HRC_57
      have hal := (Below.refl w58.heap.size w58).alloc (Nat.le_refl _) (.cells #[.string ⟨#[98]⟩, .string ⟨#[99]⟩, .string ⟨#[99]⟩, .int .i64 1, .string ⟨#[99]⟩, .string ⟨#[101]⟩, .string ⟨#[99]⟩, .int .i64 1, .string ⟨#[101]⟩, .string ⟨#[97]⟩, .string ⟨#[99]⟩, .int .i64 1] 31)
      have hnw := blk_at w58 (.cells #[.string ⟨#[98]⟩, .string ⟨#[99]⟩, .string ⟨#[99]⟩, .int .i64 1, .string ⟨#[99]⟩, .string ⟨#[101]⟩, .string ⟨#[99]⟩, .int .i64 1, .string ⟨#[101]⟩, .string ⟨#[97]⟩, .string ⟨#[99]⟩, .int .i64 1] 31) (g := w58.heap.size) (by simp)
      have B59 := Lib.hid (bt B58.out hal (Nat.le_refl _))
      have HS_59 := Lib.hid (HS_58.out.below hal)
      have HAC_59 := Lib.hid (HAC_58.out.below hal)
      have HR_59 := Lib.hid (HR_58.out.below hal)
      have HRC_59 := Lib.hid (HRC_58.out.below hal)
      have HO_59 := Lib.hid (show AtL (w58.alloc (.cells #[.string ⟨#[98]⟩, .string ⟨#[99]⟩, .string ⟨#[99]⟩, .int .i64 1, .string ⟨#[99]⟩, .string ⟨#[101]⟩, .string ⟨#[99]⟩, .int .i64 1, .string ⟨#[101]⟩, .string ⟨#[97]⟩, .string ⟨#[99]⟩, .int .i64 1] 31)) 4 trc (some ⟨w58.heap.size, 0, none⟩) shortO from at_blk trc_len hnw rfl)
      clear hal hnw B58 HS_58 HAC_58 HR_58 HRC_58
      go_wp2_with fail
      refine (gives_any (some ⟨w37.heap.size, 0, none⟩) (some ⟨w58.heap.size, 0, none⟩) 6 3 6 3 shortL shortO (w58.alloc (.cells #[.string ⟨#[98]⟩, .string ⟨#[99]⟩, .string ⟨#[99]⟩, .int .i64 1, .string ⟨#[99]⟩, .string ⟨#[101]⟩, .string ⟨#[99]⟩, .int .i64 1, .string ⟨#[101]⟩, .string ⟨#[97]⟩, .string ⟨#[99]⟩, .int .i64 1] 31)) rfl rfl (by decide) (by decide) (by decide) HS_59.out HO_59.out short_com).mono ?_
      rintro e w60 ⟨rfl, hb⟩
      have B60 := Lib.hid (bt B59.out hb (Nat.le_refl _))
      have HS_60 := Lib.hid (HS_59.out.below hb)
      have HAC_60 := Lib.hid (HAC_59.out.below hb)
      have HR_60 := Lib.hid (HR_59.out.below hb)
      have HRC_60 := Lib.hid (HRC_59.out.below hb)
      have HO_60 := Lib.hid (HO_59.out.below hb)
      clear hb B59 HS_59 HAC_59 HR_59 HRC_59 HO_59
      clear HS_60
      clear HO_60
      go_wp2_with fail
      have hal := (Below.refl w60.heap.size w60).alloc (Nat.le_refl _) (.cells #[.int .i64 0, .int .i64 1, .int .i64 3] 3)
      have hnw := blk_at w60 (.cells #[.int .i64 0, .int .i64 1, .int .i64 3] 3) (g := w60.heap.size) (by simp)
      have B61 := Lib.hid (bt B60.out hal (Nat.le_refl _))
      have HAC_61 := Lib.hid (HAC_60.out.below hal)
      have HR_61 := Lib.hid (HR_60.out.below hal)
      have HRC_61 := Lib.hid (HRC_60.out.below hal)
      have HI_61 := Lib.hid (show AtL (w60.alloc (.cells #[.int .i64 0, .int .i64 1, .int .i64 3] 3)) 1 ic (some ⟨w60.heap.size, 0, none⟩) (il [0, 1, 3]) from at_blk ic_len hnw rfl)
      clear hal hnw B60 HAC_60 HR_60 HRC_60
      go_wp2_with fail
      refine (sints_n la (some ⟨w60.heap.size, 0, none⟩) lc 3 3 3 (il [0, 1, 3]) (w60.alloc (.cells #[.int .i64 0, .int .i64 1, .int .i64 3] 3)) rfl rfl (by decide) HAC_61.out HI_61.out).mono ?_
      rintro e w62 ⟨rfl, hb⟩
      have B62 := Lib.hid (bt B61.out hb (Nat.le_refl _))
      have HAC_62 := Lib.hid (HAC_61.out.below hb)
      have HR_62 := Lib.hid (HR_61.out.below hb)
      have HRC_62 := Lib.hid (HRC_61.out.below hb)
      have HI_62 := Lib.hid (HI_61.out.below hb)
      clear hb B61 HAC_61 HR_61 HRC_61 HI_61
      clear HAC_62
      clear HI_62
      go_wp2_with fail
      have hal := (Below.refl w62.heap.size w62).alloc (Nat.le_refl _) (.cells #[.int .i64 1, .int .i64 2] 3)
      have hnw := blk_at w62 (.cells #[.int .i64 1, .int .i64 2] 3) (g := w62.heap.size) (by simp)
      have B63 := Lib.hid (bt B62.out hal (Nat.le_refl _))
      have HR_63 := Lib.hid (HR_62.out.below hal)
      have HRC_63 := Lib.hid (HRC_62.out.below hal)
      have HI_63 := Lib.hid (show AtL (w62.alloc (.cells #[.int .i64 1, .int .i64 2] 3)) 1 ic (some ⟨w62.heap.size, 0, none⟩) (il [1, 2]) from at_blk ic_len hnw rfl)
      clear hal hnw B62 HR_62 HRC_62
      go_wp2_with fail
      refine (sints_n ra (some ⟨w62.heap.size, 0, none⟩) rc 2 2 2 (il [1, 2]) (w62.alloc (.cells #[.int .i64 1, .int .i64 2] 3)) rfl rfl (by decide) HRC_63.out HI_63.out).mono ?_
      rintro e w64 ⟨rfl, hb⟩
      have B64 := Lib.hid (bt B63.out hb (Nat.le_refl _))
      have HR_64 := Lib.hid (HR_63.out.below hb)
      have HRC_64 := Lib.hid (HRC_63.out.below hb)
      have HI_64 := Lib.hid (HI_63.out.below hb)
      clear hb B63 HR_63 HRC_63 HI_63
      clear HRC_64
      clear HI_64
      go_wp2_with fail
      refine (owes_any ⟨#[97]⟩ ⟨#[98]⟩ 1 w64).mono ?_
      rintro e w65 ⟨rfl, hb⟩
      have B65 := Lib.hid (bt B64.out hb (Nat.le_refl _))
      have HR_65 := Lib.hid (HR_64.out.below hb)
      clear hb B64 HR_64
      have hal := (Below.refl w65.heap.size w65).alloc (Nat.le_refl _) (.cells #[.string ⟨#[97]⟩, .string ⟨#[98]⟩, .string ⟨#[99]⟩, .int .i64 1] 31)
      have hnw := blk_at w65 (.cells #[.string ⟨#[97]⟩, .string ⟨#[98]⟩, .string ⟨#[99]⟩, .int .i64 1] 31) (g := w65.heap.size) (by simp)
      have B66 := Lib.hid (bt B65.out hal (Nat.le_refl _))
      have HR_66 := Lib.hid (HR_65.out.below hal)
      have HO_66 := Lib.hid (show AtL (w65.alloc (.cells #[.string ⟨#[97]⟩, .string ⟨#[98]⟩, .string ⟨#[99]⟩, .int .i64 1] 31)) 4 trc (some ⟨w65.heap.size, 0, none⟩) [owes pA pB 1] from at_blk trc_len hnw rfl)
      clear hal hnw B65 HR_65
      go_wp2_with fail
      refine (gives_any (some ⟨w49.heap.size, 0, none⟩) (some ⟨w65.heap.size, 0, none⟩) 3 1 3 1 laterL [owes pA pB 1] (w65.alloc (.cells #[.string ⟨#[97]⟩, .string ⟨#[98]⟩, .string ⟨#[99]⟩, .int .i64 1] 31)) rfl rfl (by decide) (by decide) (by decide) HR_66.out HO_66.out later_com).mono ?_
      rintro e w67 ⟨rfl, hb⟩
      have B67 := Lib.hid (bt B66.out hb (Nat.le_refl _))
      have HR_67 := Lib.hid (HR_66.out.below hb)
      have HO_67 := Lib.hid (HO_66.out.below hb)
      clear hb B66 HR_66 HO_66
      go_wp2
      go_ret
      exact ⟨rfl, B67.out⟩
end Go.Proofs.Ytpphiohppgphnaa.Cs
