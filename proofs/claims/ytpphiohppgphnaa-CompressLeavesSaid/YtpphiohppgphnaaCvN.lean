/-
  Compress: the walk of alive.
-/
import Derived.Test.YtpphiohppgphnaaCvM
namespace Go.Proofs.Ytpphiohppgphnaa.Cs
open Go.RowKit Go.Proofs.Ytpphiohppgphnaa Go.Proofs.Ytpphiohppgphnaa.Ls Go.Proofs.Ytpphiohppgphnaa.Kb Go.Proofs.Ytpphiohppgphnaa.Cz
open Go.Proofs.Ytpphiohppgphnaa.Nm hiding ret_bool ret_int hb'

set_option maxRecDepth 100000 in
set_option maxHeartbeats 4000000 in
theorem alive_any (W : World) : Calls Try.prog 24 #[] W fun e w' => e = .returned (.bool true) ∧ Below W.heap.size W w' := by
  go_enter Try.func24, Try.ntmps24
  have B0 := Lib.hid (Below.refl W.heap.size W)
  go_wp2_with fail
  refine (owes_any ⟨#[65, 110, 110]⟩ ⟨#[66, 111, 98]⟩ 5 W).mono ?_
  rintro e w1 ⟨rfl, hb⟩
  have B1 := Lib.hid (bt B0.out hb (Nat.le_refl _))
  clear hb B0
  go_wp2_with fail
  refine (owes_any ⟨#[66, 111, 98]⟩ ⟨#[67, 121]⟩ 3 w1).mono ?_
  rintro e w2 ⟨rfl, hb⟩
  have B2 := Lib.hid (bt B1.out hb (Nat.le_refl _))
  clear hb B1
  go_wp2_with fail
  refine (owes_any ⟨#[67, 121]⟩ ⟨#[65, 110, 110]⟩ 4 w2).mono ?_
  rintro e w3 ⟨rfl, hb⟩
  have B3 := Lib.hid (bt B2.out hb (Nat.le_refl _))
  clear hb B2
  have hal := (Below.refl w3.heap.size w3).alloc (Nat.le_refl _) (.cells #[.string ⟨#[65, 110, 110]⟩, .string ⟨#[66, 111, 98]⟩, .string ⟨#[99]⟩, .int .i64 5, .string ⟨#[66, 111, 98]⟩, .string ⟨#[67, 121]⟩, .string ⟨#[99]⟩, .int .i64 3, .string ⟨#[67, 121]⟩, .string ⟨#[65, 110, 110]⟩, .string ⟨#[99]⟩, .int .i64 4] 31)
  have hnw := blk_at w3 (.cells #[.string ⟨#[65, 110, 110]⟩, .string ⟨#[66, 111, 98]⟩, .string ⟨#[99]⟩, .int .i64 5, .string ⟨#[66, 111, 98]⟩, .string ⟨#[67, 121]⟩, .string ⟨#[99]⟩, .int .i64 3, .string ⟨#[67, 121]⟩, .string ⟨#[65, 110, 110]⟩, .string ⟨#[99]⟩, .int .i64 4] 31) (g := w3.heap.size) (by simp)
  have B4 := Lib.hid (bt B3.out hal (Nat.le_refl _))
  have HL_4 := Lib.hid (show AtL (w3.alloc (.cells #[.string ⟨#[65, 110, 110]⟩, .string ⟨#[66, 111, 98]⟩, .string ⟨#[99]⟩, .int .i64 5, .string ⟨#[66, 111, 98]⟩, .string ⟨#[67, 121]⟩, .string ⟨#[99]⟩, .int .i64 3, .string ⟨#[67, 121]⟩, .string ⟨#[65, 110, 110]⟩, .string ⟨#[99]⟩, .int .i64 4] 31)) 4 trc (some ⟨w3.heap.size, 0, none⟩) exL from at_blk trc_len hnw rfl)
  clear hal hnw B3
  go_wp2_with fail
  refine (cycle_n (some ⟨w3.heap.size, 0, none⟩) 3 3 3 exL [0, 1, 2] 0 (w3.alloc (.cells #[.string ⟨#[65, 110, 110]⟩, .string ⟨#[66, 111, 98]⟩, .string ⟨#[99]⟩, .int .i64 5, .string ⟨#[66, 111, 98]⟩, .string ⟨#[67, 121]⟩, .string ⟨#[99]⟩, .int .i64 3, .string ⟨#[67, 121]⟩, .string ⟨#[65, 110, 110]⟩, .string ⟨#[99]⟩, .int .i64 4] 31)) rfl rfl (by decide) (by decide) HL_4.out ex_cyc).mono ?_
  rintro e w5 ⟨ca, cc, rfl, hc, hb⟩
  have B5 := Lib.hid (bt B4.out hb (Nat.le_refl _))
  have HL_5 := Lib.hid (HL_4.out.below hb)
  have HC_5 := Lib.hid hc
  clear hb hc B4 HL_4
  go_wp2_with fail
  refine (net_n (some ⟨w3.heap.size, 0, none⟩) 3 3 exL ⟨#[65, 110, 110]⟩ ⟨#[99]⟩ (-1) 0 w5 rfl (by decide) (by decide) (by decide) (by decide) HL_5.out ex_net).mono ?_
  rintro e w6 ⟨rfl, hb⟩
  have B6 := Lib.hid (bt B5.out hb (Nat.le_refl _))
  have HL_6 := Lib.hid (HL_5.out.below hb)
  have HC_6 := Lib.hid (HC_5.out.below hb)
  clear hb B5 HL_5 HC_5
  go_wp2_with fail
  refine (gross_n (some ⟨w3.heap.size, 0, none⟩) 3 3 exL 12 0 w6 rfl (by decide) (szT_dec (by decide)) HL_6.out ⟨ex_gro, ex_chk⟩).mono ?_
  rintro e w7 ⟨rfl, hb⟩
  have B7 := Lib.hid (bt B6.out hb (Nat.le_refl _))
  have HL_7 := Lib.hid (HL_6.out.below hb)
  have HC_7 := Lib.hid (HC_6.out.below hb)
  clear hb B6 HL_6 HC_6
  go_wp2_with fail
  have hal := (Below.refl w7.heap.size w7).alloc (Nat.le_refl _) (.cells #[.int .i64 0, .int .i64 1, .int .i64 2] 3)
  have hnw := blk_at w7 (.cells #[.int .i64 0, .int .i64 1, .int .i64 2] 3) (g := w7.heap.size) (by simp)
  have B8 := Lib.hid (bt B7.out hal (Nat.le_refl _))
  have HL_8 := Lib.hid (HL_7.out.below hal)
  have HC_8 := Lib.hid (HC_7.out.below hal)
  have HI_8 := Lib.hid (show AtL (w7.alloc (.cells #[.int .i64 0, .int .i64 1, .int .i64 2] 3)) 1 ic (some ⟨w7.heap.size, 0, none⟩) (il [0, 1, 2]) from at_blk ic_len hnw rfl)
  clear hal hnw B7 HL_7 HC_7
  go_wp2_with fail
  refine (sints_n ca (some ⟨w7.heap.size, 0, none⟩) cc 3 3 3 (il [0, 1, 2]) (w7.alloc (.cells #[.int .i64 0, .int .i64 1, .int .i64 2] 3)) rfl rfl (by decide) HC_8.out HI_8.out).mono ?_
  rintro e w9 ⟨rfl, hb⟩
  have B9 := Lib.hid (bt B8.out hb (Nat.le_refl _))
  have HL_9 := Lib.hid (HL_8.out.below hb)
  have HC_9 := Lib.hid (HC_8.out.below hb)
  have HI_9 := Lib.hid (HI_8.out.below hb)
  clear hb B8 HL_8 HC_8 HI_8
  clear HC_9
  clear HI_9
  go_wp2_with fail
  refine (owes_any ⟨#[65, 110, 110]⟩ ⟨#[66, 111, 98]⟩ 2 w9).mono ?_
  rintro e w10 ⟨rfl, hb⟩
  have B10 := Lib.hid (bt B9.out hb (Nat.le_refl _))
  have HL_10 := Lib.hid (HL_9.out.below hb)
  clear hb B9 HL_9
  go_wp2_with fail
  refine (owes_any ⟨#[67, 121]⟩ ⟨#[65, 110, 110]⟩ 1 w10).mono ?_
  rintro e w11 ⟨rfl, hb⟩
  have B11 := Lib.hid (bt B10.out hb (Nat.le_refl _))
  have HL_11 := Lib.hid (HL_10.out.below hb)
  clear hb B10 HL_10
  have hal := (Below.refl w11.heap.size w11).alloc (Nat.le_refl _) (.cells #[.string ⟨#[65, 110, 110]⟩, .string ⟨#[66, 111, 98]⟩, .string ⟨#[99]⟩, .int .i64 2, .string ⟨#[67, 121]⟩, .string ⟨#[65, 110, 110]⟩, .string ⟨#[99]⟩, .int .i64 1] 31)
  have hnw := blk_at w11 (.cells #[.string ⟨#[65, 110, 110]⟩, .string ⟨#[66, 111, 98]⟩, .string ⟨#[99]⟩, .int .i64 2, .string ⟨#[67, 121]⟩, .string ⟨#[65, 110, 110]⟩, .string ⟨#[99]⟩, .int .i64 1] 31) (g := w11.heap.size) (by simp)
  have B12 := Lib.hid (bt B11.out hal (Nat.le_refl _))
  have HL_12 := Lib.hid (HL_11.out.below hal)
  have HO_12 := Lib.hid (show AtL (w11.alloc (.cells #[.string ⟨#[65, 110, 110]⟩, .string ⟨#[66, 111, 98]⟩, .string ⟨#[99]⟩, .int .i64 2, .string ⟨#[67, 121]⟩, .string ⟨#[65, 110, 110]⟩, .string ⟨#[99]⟩, .int .i64 1] 31)) 4 trc (some ⟨w11.heap.size, 0, none⟩) exO from at_blk trc_len hnw rfl)
  clear hal hnw B11 HL_11
  go_wp2_with fail
  refine (gives_any (some ⟨w3.heap.size, 0, none⟩) (some ⟨w11.heap.size, 0, none⟩) 3 2 3 2 exL exO (w11.alloc (.cells #[.string ⟨#[65, 110, 110]⟩, .string ⟨#[66, 111, 98]⟩, .string ⟨#[99]⟩, .int .i64 2, .string ⟨#[67, 121]⟩, .string ⟨#[65, 110, 110]⟩, .string ⟨#[99]⟩, .int .i64 1] 31)) rfl rfl (by decide) (by decide) (by decide) HL_12.out HO_12.out ex_com).mono ?_
  rintro e w13 ⟨rfl, hb⟩
  have B13 := Lib.hid (bt B12.out hb (Nat.le_refl _))
  have HL_13 := Lib.hid (HL_12.out.below hb)
  have HO_13 := Lib.hid (HO_12.out.below hb)
  clear hb B12 HL_12 HO_12
  go_wp2
  go_ret
  exact ⟨rfl, B13.out⟩
end Go.Proofs.Ytpphiohppgphnaa.Cs
