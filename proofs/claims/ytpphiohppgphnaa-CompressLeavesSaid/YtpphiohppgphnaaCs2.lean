/-
  Compress: the walks of cmp.Or and order.
-/
import Derived.Test.YtpphiohppgphnaaCs1
namespace Go.Proofs.Ytpphiohppgphnaa.Cs
open Go.RowKit Go.Proofs.Ytpphiohppgphnaa Go.Proofs.Ytpphiohppgphnaa.Ls Go.Proofs.Ytpphiohppgphnaa.Kb Go.Proofs.Ytpphiohppgphnaa.Cz
open Go.Proofs.Ytpphiohppgphnaa.Nm hiding ret_bool ret_int hb'

def or3 (x y z : Int) : Int := if x ≠ 0 then x else if y ≠ 0 then y else z
set_option maxRecDepth 100000 in
set_option maxHeartbeats 1000000 in
theorem or3_any (b cap : Nat) (x y z : Int) (w : World) (h0 : w.cell? ⟨b, 0, none⟩ = some (.int .i64 x)) (h1 : w.cell? ⟨b, 1, none⟩ = some (.int .i64 y)) (h2 : w.cell? ⟨b, 2, none⟩ = some (.int .i64 z)) :
    Calls Try.prog 41 #[.slice (some ⟨b, 0, none⟩) 3 cap] w fun e w' => e = .returned (.int .i64 (or3 x y z)) ∧ w' = w := by
  obtain ⟨r, hr⟩ : ∃ r, r = or3 x y z := ⟨_, rfl⟩
  rw [← hr]
  have HR := Lib.hid (show r = or3 x y z from hr)
  clear hr
  go_enter Try.func41, Try.ntmps41
  go_wp2_with fail
  go_loop [5, 8] (fun _ i => i = .int .i64 0 ∨ (i = .int .i64 1 ∧ Hid (x = 0)) ∨ (i = .int .i64 2 ∧ Hid (x = 0 ∧ y = 0)) ∨ (i = .int .i64 3 ∧ Hid (x = 0 ∧ y = 0 ∧ z = 0))) (fun _ i => 3 - (intOf i).toNat)
  case atStart => exact .inl rfl
  case round =>
    rcases hrel with rfl | ⟨rfl, H⟩ | ⟨rfl, H⟩ | ⟨rfl, H⟩
    · by_cases h : x = 0
      · have hz : (x != 0) = false := by rw [h]; rfl
        have HH := Lib.hid h
        clear h
        go_wp2
        go_round
        case rel => exact .inr (.inl ⟨rfl, HH⟩)
        case measure => simp [intOf]
      · have hz : (x != 0) = true := by rw [bne_iff_ne]; exact h
        have HE := Lib.hid (show r = x by rw [HR.out]; unfold or3; rw [if_pos h])
        clear h
        go_wp2
        go_ret
        exact ⟨ret_int HE.out.symm, rfl⟩
    · by_cases h : y = 0
      · have hz : (y != 0) = false := by rw [h]; rfl
        have HH := Lib.hid (And.intro H.out h)
        clear h
        go_wp2
        go_round
        case rel => exact .inr (.inr (.inl ⟨rfl, HH⟩))
        case measure => simp [intOf]
      · have hz : (y != 0) = true := by rw [bne_iff_ne]; exact h
        have HE := Lib.hid (show r = y by rw [HR.out]; unfold or3; rw [if_neg (fun q => q H.out), if_pos h])
        clear h
        go_wp2
        go_ret
        exact ⟨ret_int HE.out.symm, rfl⟩
    · by_cases h : z = 0
      · have hz : (z != 0) = false := by rw [h]; rfl
        have HH := Lib.hid (show x = 0 ∧ y = 0 ∧ z = 0 from ⟨H.out.1, H.out.2, h⟩)
        clear h
        go_wp2
        go_round
        case rel => exact .inr (.inr (.inr ⟨rfl, HH⟩))
        case measure => simp [intOf]
      · have hz : (z != 0) = true := by rw [bne_iff_ne]; exact h
        have HE := Lib.hid (show r = z by rw [HR.out]; unfold or3; rw [if_neg (fun q => q H.out.1), if_neg (fun q => q H.out.2)])
        clear h
        go_wp2
        go_ret
        exact ⟨ret_int HE.out.symm, rfl⟩
    · have HE := Lib.hid (show r = 0 by rw [HR.out]; unfold or3; rw [if_neg (fun q => q H.out.1), if_neg (fun q => q H.out.2.1)]; exact H.out.2.2)
      go_wp2
      go_ret
      exact ⟨ret_int HE.out.symm, rfl⟩
set_option maxRecDepth 100000 in
set_option maxHeartbeats 4000000 in
theorem order_any (x y : Tr) (w : World) :
    Calls Try.prog 35 #[.agg #[.string x.fr, .string x.to_, .string x.con, .int .i64 x.amt], .agg #[.string y.fr, .string y.to_, .string y.con, .int .i64 y.amt]] w fun e w' => e = .returned (.int .i64 (ordI x y)) ∧ Below w.heap.size w w' := by
  obtain ⟨xf, xt, xc, xa⟩ := x
  obtain ⟨yf, yt, yc, ya⟩ := y
  have HE := Lib.hid (show ordI ⟨xf, xt, xc, xa⟩ ⟨yf, yt, yc, ya⟩ = or3 (cmpS xc yc) (cmpS xf yf) (cmpS xt yt) from rfl)
  rw [HE.out]
  clear HE
  dsimp only
  have hb2 : Below w.heap.size w ((w.alloc (.cells #[.string xf, .string xt, .string xc, .int .i64 xa] 31)).alloc (.cells #[.string yf, .string yt, .string yc, .int .i64 ya] 31)) := ((Below.refl _ _).alloc (Nat.le_refl _) _).alloc (by simp) _
  have HX := Lib.hid (blk_two w (.cells #[.string xf, .string xt, .string xc, .int .i64 xa] 31) (.cells #[.string yf, .string yt, .string yc, .int .i64 ya] 31))
  go_enter Try.func35, Try.ntmps35
  go_wp2_with fail
  generalize World.alloc _ _ = w2 at hb2 HX ⊢
  have HB := Lib.hid (show ∀ wx, Below w2.heap.size w2 wx → wx.cell? ⟨w.heap.size, 0, none⟩ = some (.string xf) ∧ wx.cell? ⟨w.heap.size, 1, none⟩ = some (.string xt) ∧ wx.cell? ⟨w.heap.size, 2, none⟩ = some (.string xc) ∧ wx.cell? ⟨w.heap.size + 1, 0, none⟩ = some (.string yf) ∧ wx.cell? ⟨w.heap.size + 1, 1, none⟩ = some (.string yt) ∧ wx.cell? ⟨w.heap.size + 1, 2, none⟩ = some (.string yc) from
    fun wx hx => ⟨cell_of (blk_keep HX.out.1 hx) 0 _ rfl, cell_of (blk_keep HX.out.1 hx) 1 _ rfl, cell_of (blk_keep HX.out.1 hx) 2 _ rfl, cell_of (blk_keep HX.out.2 hx) 0 _ rfl, cell_of (blk_keep HX.out.2 hx) 1 _ rfl, cell_of (blk_keep HX.out.2 hx) 2 _ rfl⟩)
  have k0 : Below w2.heap.size w2 w2 := Below.refl _ _
  have kd := k0.drew
  obtain ⟨x0, x1, x2, y0, y1, y2⟩ := HB.out w2 k0
  have hs := blk_lt HX.out.2
  have HS := Lib.hid (blk_new w2 (.cells #[.int .i64 (cmpS xc yc), .int .i64 (cmpS xf yf), .int .i64 (cmpS xt yt)] 3))
  have ka : Below w2.heap.size w2 (w2.alloc (.cells #[.int .i64 (cmpS xc yc), .int .i64 (cmpS xf yf), .int .i64 (cmpS xt yt)] 3)) := k0.alloc (Nat.le_refl _) _
  go_region_held3 (fun w' => w'.cell? ⟨w.heap.size, 0, none⟩ = some (.string xf) ∧ w'.cell? ⟨w.heap.size, 1, none⟩ = some (.string xt) ∧ w'.cell? ⟨w.heap.size, 2, none⟩ = some (.string xc) ∧ w'.cell? ⟨w.heap.size + 1, 0, none⟩ = some (.string yf) ∧ w'.cell? ⟨w.heap.size + 1, 1, none⟩ = some (.string yt) ∧ w'.cell? ⟨w.heap.size + 1, 2, none⟩ = some (.string yc))
    (first | with_reducible exact HB.out _ (by assumption) | with_reducible exact HB.out _ (Below.drew (by assumption)) | go_keep)
    (first
      | (go_at_call 42; refine (compare_any _ _ _).mono ?_; rintro e w' ⟨rfl, rfl⟩)
      | (go_at_call 41; refine (or3_any w2.heap.size 3 (cmpS xc yc) (cmpS xf yf) (cmpS xt yt) (w2.drew.alloc (.cells #[.int .i64 (cmpS xc yc), .int .i64 (cmpS xf yf), .int .i64 (cmpS xt yt)] 3)) (cell_of (blk_new w2.drew (.cells #[.int .i64 (cmpS xc yc), .int .i64 (cmpS xf yf), .int .i64 (cmpS xt yt)] 3)) 0 _ rfl) (cell_of (blk_new w2.drew (.cells #[.int .i64 (cmpS xc yc), .int .i64 (cmpS xf yf), .int .i64 (cmpS xt yt)] 3)) 1 _ rfl) (cell_of (blk_new w2.drew (.cells #[.int .i64 (cmpS xc yc), .int .i64 (cmpS xf yf), .int .i64 (cmpS xt yt)] 3)) 2 _ rfl)).mono ?_; rintro e w' ⟨rfl, rfl⟩))
  all_goals
    go_wp2
    go_ret
    exact ⟨rfl, by first | exact hb2.trans (ka.mono hb2.size) | exact hb2.trans (ka.drew.mono hb2.size) | exact hb2.trans ((kd.alloc (Nat.le_refl _) _).mono hb2.size)⟩
end Go.Proofs.Ytpphiohppgphnaa.Cs
