/-
  Member: the walk of MemberNames.
-/
import Derived.Test.YtoemjpfoddeinaaMbU
namespace Go.Proofs.Ytoemjpfoddeinaa.Mb
open Go.RowKit Go.Proofs.Ytoemjpfoddeinaa Go.Proofs.Ytoemjpfoddeinaa.Ls Go.Proofs.Ytoemjpfoddeinaa.Kb
open Go.Proofs.Ytoemjpfoddeinaa.Nm hiding ret_bool ret_int

def bN : ByteArray := ⟨#[110]⟩
def bC : ByteArray := ⟨#[99]⟩
def exT : List Me := [⟨bM, 1, true, 100, [⟨bA, false, 80, 70⟩, ⟨bB, true, 50, 30⟩]⟩]
def exV : List Me := [⟨bM, 1, true, 100, [⟨bA, false, 80, -70⟩, ⟨bB, true, 50, 30⟩]⟩]
def exB : List Me := [exM 70 31]
theorem ok_B : OkMs exB := okMs_dec (by kernel_rfl)
theorem ok_T : OkMs exT := okMs_dec (by kernel_rfl)
theorem ok_V : OkMs exV := okMs_dec (by kernel_rfl)
theorem n_x : expoF exS bM = (100, 0) := by kernel_rfl
theorem n_f : expoF exS bN = (0, 6) := by kernel_rfl
theorem n_g : expoF exB bM = (0, 8) := by kernel_rfl
theorem n_h : joinF exS house 1 1 = ([], 2) := by kernel_rfl
theorem n_i : joinF exS bM 3 1 = ([], 2) := by kernel_rfl
theorem n_j : joinF exS bM 2 1 = ([], 24) := by kernel_rfl
theorem n_k : leaveF exS bM = ([], 20) := by kernel_rfl
theorem n_l : chgF exS bM (fLim 99) = ([], 52) := by kernel_rfl
theorem n_m : chgF exS bM (fSus false) = ([], 20) := by kernel_rfl
theorem n_n : chgF exS bM (fSus true) = (exT, 0) := by kernel_rfl
theorem n_o : chgF exT bM (fOpen bC false 1) = ([], 20) := by kernel_rfl
theorem n_p : chgF exT bM (fUse bA 1) = ([], 20) := by kernel_rfl
theorem n_q : chgF exT bM (fUse bA (-140)) = (exV, 0) := by kernel_rfl
theorem n_r : chgF exT bM (fUse bA (-141)) = ([], 20) := by kernel_rfl
theorem n_v : chgF exS bM (fClose bA) = ([], 20) := by kernel_rfl
theorem n_w : chgF exS bM (fMove bA bA 1) = ([], 2) := by kernel_rfl
theorem n_y : chgF exS bM (fMove bA bC 1) = ([], 6) := by kernel_rfl
theorem n_c : chk exV = 0 := by kernel_rfl
theorem len_h : house.size ≤ maxLen := by decide
theorem len_c : bC.size ≤ maxLen := by decide
theorem i64_1 : i64 1 := i64_dec (by kernel_rfl)
/-- the copy of the example, and the write into it -/
theorem ex_put {w : World} {B c : Nat} {a : Option Addr} (h : StO w B a c exS) : ∃ g g2 c2, a = some ⟨g, 0, none⟩ ∧ w.cell? ⟨g, 4, none⟩ = some (.slice (some ⟨g2, 0, none⟩) 2 c2) ∧ w.cell? ⟨g2, 7, none⟩ = some (.int .i64 30) ∧ w.frozen? ⟨g2, 7, none⟩ = false ∧ B ≤ g2 ∧ g2 < w.heap.size ∧ g < w.heap.size ∧ B ≤ g ∧
    (∀ wy, Below w.heap.size w wy → St (wy.setCell ⟨g2, 7, none⟩ (.int .i64 31)) a exB) := by
  obtain ⟨xs, h1, h2⟩ := h
  have hl : xs.length = 1 := by rw [← fst_len, h1]; rfl
  obtain ⟨g, rfl, hg⟩ := own_some h2 (by omega)
  have hm : (gp xs 0).1 = exM 70 30 := by rw [← gm_fst, h1]; rfl
  obtain ⟨q0, q1, q2, q3, q4⟩ := at_p' h2.at.ms 0 (by omega)
  have hrow := h2.rows.own _ (gp_mem xs 0 (by omega))
  obtain ⟨g2, cur, hsl, _, hB2, hcur, _⟩ := hrow.row (by rw [hm]; decide)
  have hs : (gp xs 0).2.1 = some ⟨g2, 0, none⟩ := hsl
  have hA := h2.at.ac _ (gp_mem xs 0 (by omega))
  rw [hm, hs] at hA
  obtain ⟨p0, p1, p2, p3⟩ := at_a' hA 1 (by decide)
  have p3 : w.cell? ⟨g2, 7, none⟩ = some (.int .i64 30) := by
    have := p3
    rw [show 0 + 1 * 4 + 3 = 7 from rfl] at this
    exact this
  refine ⟨g, g2, (gp xs 0).2.2, rfl, ?_, p3, ?_, hB2, World.block_lt_of_cell? _ _ p3, World.block_lt_of_cell? _ _ q0, hg, fun wy hb => ?_⟩
  · have := q4
    rw [hs, hm] at this
    exact this
  · obtain ⟨cs, hc⟩ := own_in hrow g2 (by unfold sl; rw [hs]; rfl)
    exact frozen_of hc 7
  · have hy := (put_us (h2.below hb) (show 0 < xs.length by omega) hs 1 (by rw [hm]; decide) 31).1
    refine ⟨_, ?_, hy.at⟩
    rw [fst_set, h1]
    rw [hm]
    rfl

set_option maxRecDepth 100000 in
set_option maxHeartbeats 8000000 in
theorem names_walk (w : World) : Calls Try.prog 3 #[] w fun e w' => e = .returned (.bool true) ∧ Below w.heap.size w w' := by
  go_enter Try.func3, Try.ntmps3
  go_wp2_with fail
  have B0 := Lib.hid (Below.refl w.heap.size w)
  refine (example_any w).mono ?_
  rintro e v1 ⟨a1, d1, rfl, hS, hb⟩
  have hb0 := hb
  have hal : Below v1.heap.size v1 (v1.alloc (.cells #[.slice a1 1 d1] 24)) := (Below.refl _ _).alloc (Nat.le_refl _) _
  have hnw := blk_new v1 (.cells #[.slice a1 1 d1] 24)
  obtain ⟨XS, hX⟩ : ∃ X, X = v1.heap.size := ⟨_, rfl⟩
  have B1 := Lib.hid (bt (bt B0.out hb (Nat.le_refl _)) hal (Nat.le_refl _))
  have hs_1 := Lib.hid ((hS.st).below hal)
  rw [← hX] at hnw
  have S_1 := Lib.hid hnw
  clear hb hb0 B0 hS
  go_wp2_with fail
  rw [← hX]
  clear hX
  clear hal hnw
  generalize v1.alloc _ = w1 at B1 hs_1 S_1 ⊢
  refine (s_twin a1 d1 1 exS w1 rfl (by decide) (by decide) hs_1.out).mono ?_
  rintro e v2 ⟨a2, d2, rfl, hT, hb⟩
  obtain ⟨G, G2, C2, rfl, q4, p7, pf, hG2, hlt2, hltG, hG, HPUT⟩ := ex_put hT
  have hal : Below v2.heap.size v2 (v2.alloc (.cells #[.slice (some ⟨G, 0, none⟩) 1 d2] 24)) := (Below.refl _ _).alloc (Nat.le_refl _) _
  have hst : Below w1.heap.size w1 ((v2.setCell ⟨G2, 7, none⟩ (.int .i64 31)).alloc (.cells #[.slice (some ⟨G, 0, none⟩) 1 d2] 24)) := (hb.setCell (p := ⟨G2, 7, none⟩) hG2 _).alloc (Nat.le_trans hb.size (Nat.le_of_eq (by simp))) _
  have hnw := blk_new (v2.setCell ⟨G2, 7, none⟩ (.int .i64 31)) (.cells #[.slice (some ⟨G, 0, none⟩) 1 d2] 24)
  rw [show (v2.setCell ⟨G2, 7, none⟩ (.int .i64 31)).heap.size = v2.heap.size by simp] at hnw
  have ls := cell_of (blk_keep S_1.out hb) 0 _ rfl
  have ll := blk_lt (blk_keep S_1.out hb)
  have hSG : XS < G2 := by have := blk_lt S_1.out; omega
  have hSX : XS < v2.heap.size := ll
  have B2 := Lib.hid (bt B1.out hst (Nat.le_refl _))
  have hs_2 := Lib.hid (hs_1.out.below hst)
  have S_2 := Lib.hid (blk_keep S_1.out hst)
  have hbd := Lib.hid ((HPUT _ (Below.refl _ _)).below (show Below _ _ ((v2.setCell ⟨G2, 7, none⟩ (.int .i64 31)).alloc (.cells #[.slice (some ⟨G, 0, none⟩) 1 d2] 24)) from (Below.refl _ _).alloc (Nat.le_refl _) _))
  obtain ⟨XD, hX⟩ : ∃ X, X = v2.heap.size := ⟨_, rfl⟩
  rw [← hX] at hnw
  have BD := Lib.hid hnw
  clear hb hT hal hst hnw HPUT B1 hs_1 S_1
  go_wp2_with fail
  clear ls ll q4 p7 pf hSG hSX
  rw [← hX]
  clear hX hG2 hlt2 hltG hG
  generalize (v2.setCell _ _).alloc _ = w2 at B2 hs_2 S_2 hbd BD ⊢
  refine (s_expo a1 d1 1 exS bM 100 0 w2 n_x rfl (by decide) ok_S hs_2.out).mono ?_
  rintro e v3 ⟨rfl, hb⟩
  have hb0 := hb
  have ld0 := cell_of (blk_keep S_2.out hb) 0 _ rfl
  have ll0 := blk_lt (blk_keep S_2.out hb)
  have B3 := Lib.hid (bt B2.out hb (Nat.le_refl _))
  have hs_3 := Lib.hid (hs_2.out.below hb)
  have S_3 := Lib.hid (blk_keep S_2.out hb)
  have hbd_3 := Lib.hid (hbd.out.below hb)
  have BD_3 := Lib.hid (blk_keep BD.out hb)
  clear hb hb0 B2 hs_2 S_2 hbd BD 
  go_wp2_with fail
  clear ld0 ll0
  refine (s_expo a1 d1 1 exS bN 0 6 v3 n_f rfl (by decide) ok_S hs_3.out).mono ?_
  rintro e v4 ⟨rfl, hb⟩
  have hb0 := hb
  have ld0 := cell_of (blk_keep BD_3.out hb) 0 _ rfl
  have ll0 := blk_lt (blk_keep BD_3.out hb)
  have B4 := Lib.hid (bt B3.out hb (Nat.le_refl _))
  have hs_4 := Lib.hid (hs_3.out.below hb)
  have S_4 := Lib.hid (blk_keep S_3.out hb)
  have hbd_4 := Lib.hid (hbd_3.out.below hb)
  have BD_4 := Lib.hid (blk_keep BD_3.out hb)
  clear hb hb0 B3 hs_3 S_3 hbd_3 BD_3 
  go_wp2_with fail
  clear ld0 ll0
  refine (s_expo (some ⟨G, 0, none⟩) d2 1 exB bM 0 8 v4 n_g rfl (by decide) ok_B hbd_4.out).mono ?_
  rintro e v5 ⟨rfl, hb⟩
  have hb0 := hb
  have ld0 := cell_of (blk_keep S_4.out hb) 0 _ rfl
  have ll0 := blk_lt (blk_keep S_4.out hb)
  have B5 := Lib.hid (bt B4.out hb (Nat.le_refl _))
  have hs_5 := Lib.hid (hs_4.out.below hb)
  have S_5 := Lib.hid (blk_keep S_4.out hb)
  have hbd_5 := Lib.hid (hbd_4.out.below hb)
  have BD_5 := Lib.hid (blk_keep BD_4.out hb)
  clear hb hb0 B4 hs_4 S_4 hbd_4 BD_4 
  go_wp2_with fail
  clear ld0 ll0
  clear BD_5
  clear hbd_5
  refine (s_join a1 d1 1 exS house 1 1 [] 0 2 v5 n_h rfl rfl (by decide) len_h (by decide) i64_1 ok_S hs_5.out).mono ?_
  rintro e v6 ⟨x3, y3, rfl, hN, hb⟩
  have hb0 := hb
  have ld0 := cell_of (blk_keep S_5.out hb) 0 _ rfl
  have ll0 := blk_lt (blk_keep S_5.out hb)
  have hal : Below v6.heap.size v6 (v6.alloc (.cells #[.slice x3 0 y3] 24)) := (Below.refl _ _).alloc (Nat.le_refl _) _
  have hnw := blk_new v6 (.cells #[.slice x3 0 y3] 24)
  have B6 := Lib.hid (bt (bt B5.out hb (Nat.le_refl _)) hal (Nat.le_refl _))
  have hs_6 := Lib.hid ((hs_5.out.below hb).below hal)
  have S_6 := Lib.hid (blk_keep (blk_keep S_5.out hb) hal)
  clear hb hb0 B5 hs_5 S_5 hN
  go_wp2_with fail
  clear ld0 ll0
  clear hal hnw
  generalize v6.alloc _ = w6 at B6 hs_6 S_6 ⊢
  refine (s_join a1 d1 1 exS bM 3 1 [] 0 2 w6 n_i rfl rfl (by decide) len_m (by decide) i64_1 ok_S hs_6.out).mono ?_
  rintro e v7 ⟨x4, y4, rfl, hN, hb⟩
  have hb0 := hb
  have ld0 := cell_of (blk_keep S_6.out hb) 0 _ rfl
  have ll0 := blk_lt (blk_keep S_6.out hb)
  have hal : Below v7.heap.size v7 (v7.alloc (.cells #[.slice x4 0 y4] 24)) := (Below.refl _ _).alloc (Nat.le_refl _) _
  have hnw := blk_new v7 (.cells #[.slice x4 0 y4] 24)
  have B7 := Lib.hid (bt (bt B6.out hb (Nat.le_refl _)) hal (Nat.le_refl _))
  have hs_7 := Lib.hid ((hs_6.out.below hb).below hal)
  have S_7 := Lib.hid (blk_keep (blk_keep S_6.out hb) hal)
  clear hb hb0 B6 hs_6 S_6 hN
  go_wp2_with fail
  clear ld0 ll0
  clear hal hnw
  generalize v7.alloc _ = w7 at B7 hs_7 S_7 ⊢
  refine (s_join a1 d1 1 exS bM 2 1 [] 0 24 w7 n_j rfl rfl (by decide) len_m (by decide) i64_1 ok_S hs_7.out).mono ?_
  rintro e v8 ⟨x5, y5, rfl, hN, hb⟩
  have hb0 := hb
  have ld0 := cell_of (blk_keep S_7.out hb) 0 _ rfl
  have ll0 := blk_lt (blk_keep S_7.out hb)
  have hal : Below v8.heap.size v8 (v8.alloc (.cells #[.slice x5 0 y5] 24)) := (Below.refl _ _).alloc (Nat.le_refl _) _
  have hnw := blk_new v8 (.cells #[.slice x5 0 y5] 24)
  have B8 := Lib.hid (bt (bt B7.out hb (Nat.le_refl _)) hal (Nat.le_refl _))
  have hs_8 := Lib.hid ((hs_7.out.below hb).below hal)
  have S_8 := Lib.hid (blk_keep (blk_keep S_7.out hb) hal)
  clear hb hb0 B7 hs_7 S_7 hN
  go_wp2_with fail
  clear ld0 ll0
  clear hal hnw
  generalize v8.alloc _ = w8 at B8 hs_8 S_8 ⊢
  refine (s_leave a1 d1 1 exS bM [] 0 20 w8 n_k rfl rfl (by decide)  ok_S hs_8.out).mono ?_
  rintro e v9 ⟨x6, y6, rfl, hN, hb⟩
  have hb0 := hb
  have ld0 := cell_of (blk_keep S_8.out hb) 0 _ rfl
  have ll0 := blk_lt (blk_keep S_8.out hb)
  have hal : Below v9.heap.size v9 (v9.alloc (.cells #[.slice x6 0 y6] 24)) := (Below.refl _ _).alloc (Nat.le_refl _) _
  have hnw := blk_new v9 (.cells #[.slice x6 0 y6] 24)
  have B9 := Lib.hid (bt (bt B8.out hb (Nat.le_refl _)) hal (Nat.le_refl _))
  have hs_9 := Lib.hid ((hs_8.out.below hb).below hal)
  have S_9 := Lib.hid (blk_keep (blk_keep S_8.out hb) hal)
  clear hb hb0 B8 hs_8 S_8 hN
  go_wp2_with fail
  clear ld0 ll0
  clear hal hnw
  generalize v9.alloc _ = w9 at B9 hs_9 S_9 ⊢
  refine (s_setlimit a1 d1 1 exS bM 99 [] 0 52 w9 n_l rfl rfl (by decide)  ok_S hs_9.out).mono ?_
  rintro e v10 ⟨x7, y7, rfl, hN, hb⟩
  have hb0 := hb
  have ld0 := cell_of (blk_keep S_9.out hb) 0 _ rfl
  have ll0 := blk_lt (blk_keep S_9.out hb)
  have hal : Below v10.heap.size v10 (v10.alloc (.cells #[.slice x7 0 y7] 24)) := (Below.refl _ _).alloc (Nat.le_refl _) _
  have hnw := blk_new v10 (.cells #[.slice x7 0 y7] 24)
  have B10 := Lib.hid (bt (bt B9.out hb (Nat.le_refl _)) hal (Nat.le_refl _))
  have hs_10 := Lib.hid ((hs_9.out.below hb).below hal)
  have S_10 := Lib.hid (blk_keep (blk_keep S_9.out hb) hal)
  clear hb hb0 B9 hs_9 S_9 hN
  go_wp2_with fail
  clear ld0 ll0
  clear hal hnw
  generalize v10.alloc _ = w10 at B10 hs_10 S_10 ⊢
  refine (s_suspend a1 d1 1 exS bM false [] 0 20 w10 n_m rfl rfl (by decide)  ok_S hs_10.out).mono ?_
  rintro e v11 ⟨x8, y8, rfl, hN, hb⟩
  have hb0 := hb
  have ld0 := cell_of (blk_keep S_10.out hb) 0 _ rfl
  have ll0 := blk_lt (blk_keep S_10.out hb)
  have hal : Below v11.heap.size v11 (v11.alloc (.cells #[.slice x8 0 y8] 24)) := (Below.refl _ _).alloc (Nat.le_refl _) _
  have hnw := blk_new v11 (.cells #[.slice x8 0 y8] 24)
  have B11 := Lib.hid (bt (bt B10.out hb (Nat.le_refl _)) hal (Nat.le_refl _))
  have hs_11 := Lib.hid ((hs_10.out.below hb).below hal)
  have S_11 := Lib.hid (blk_keep (blk_keep S_10.out hb) hal)
  clear hb hb0 B10 hs_10 S_10 hN
  go_wp2_with fail
  clear ld0 ll0
  clear hal hnw
  generalize v11.alloc _ = w11 at B11 hs_11 S_11 ⊢
  refine (s_suspend a1 d1 1 exS bM true exT 1 0 w11 n_n rfl rfl (by decide) ok_S hs_11.out).mono ?_
  rintro e v12 ⟨at_, dt, rfl, hN, hb⟩
  have hb0 := hb
  have hal : Below v12.heap.size v12 (v12.alloc (.cells #[.slice at_ 1 dt] 24)) := (Below.refl _ _).alloc (Nat.le_refl _) _
  have hnw := blk_new v12 (.cells #[.slice at_ 1 dt] 24)
  obtain ⟨XT, hX⟩ : ∃ X, X = v12.heap.size := ⟨_, rfl⟩
  have B12 := Lib.hid (bt (bt B11.out hb (Nat.le_refl _)) hal (Nat.le_refl _))
  have hs_12 := Lib.hid ((hs_11.out.below hb).below hal)
  have S_12 := Lib.hid (blk_keep (blk_keep S_11.out hb) hal)
  have ht_12 := Lib.hid ((hN.st).below hal)
  rw [← hX] at hnw
  have T_12 := Lib.hid hnw
  clear hb hb0 B11 hs_11 S_11 hN
  go_wp2_with fail
  rw [← hX]
  clear hX
  clear hal hnw
  generalize v12.alloc _ = w12 at B12 hs_12 S_12 ht_12 T_12 ⊢
  refine (s_open at_ dt 1 exT bM bC false 1 [] 0 20 w12 n_o rfl rfl (by decide) len_c ok_T ht_12.out).mono ?_
  rintro e v13 ⟨x9, y9, rfl, hN, hb⟩
  have hb0 := hb
  have ld0 := cell_of (blk_keep T_12.out hb) 0 _ rfl
  have ll0 := blk_lt (blk_keep T_12.out hb)
  have hal : Below v13.heap.size v13 (v13.alloc (.cells #[.slice x9 0 y9] 24)) := (Below.refl _ _).alloc (Nat.le_refl _) _
  have hnw := blk_new v13 (.cells #[.slice x9 0 y9] 24)
  have B13 := Lib.hid (bt (bt B12.out hb (Nat.le_refl _)) hal (Nat.le_refl _))
  have hs_13 := Lib.hid ((hs_12.out.below hb).below hal)
  have S_13 := Lib.hid (blk_keep (blk_keep S_12.out hb) hal)
  have ht_13 := Lib.hid ((ht_12.out.below hb).below hal)
  have T_13 := Lib.hid (blk_keep (blk_keep T_12.out hb) hal)
  clear hb hb0 B12 hs_12 S_12 ht_12 T_12 hN
  go_wp2_with fail
  clear ld0 ll0
  clear hal hnw
  generalize v13.alloc _ = w13 at B13 hs_13 S_13 ht_13 T_13 ⊢
  refine (s_use at_ dt 1 exT bM bA 1 [] 0 20 w13 n_p rfl rfl (by decide) i64_1 ok_T ht_13.out).mono ?_
  rintro e v14 ⟨x10, y10, rfl, hN, hb⟩
  have hb0 := hb
  have ld0 := cell_of (blk_keep T_13.out hb) 0 _ rfl
  have ll0 := blk_lt (blk_keep T_13.out hb)
  have hal : Below v14.heap.size v14 (v14.alloc (.cells #[.slice x10 0 y10] 24)) := (Below.refl _ _).alloc (Nat.le_refl _) _
  have hnw := blk_new v14 (.cells #[.slice x10 0 y10] 24)
  have B14 := Lib.hid (bt (bt B13.out hb (Nat.le_refl _)) hal (Nat.le_refl _))
  have hs_14 := Lib.hid ((hs_13.out.below hb).below hal)
  have S_14 := Lib.hid (blk_keep (blk_keep S_13.out hb) hal)
  have ht_14 := Lib.hid ((ht_13.out.below hb).below hal)
  have T_14 := Lib.hid (blk_keep (blk_keep T_13.out hb) hal)
  clear hb hb0 B13 hs_13 S_13 ht_13 T_13 hN
  go_wp2_with fail
  clear ld0 ll0
  clear hal hnw
  generalize v14.alloc _ = w14 at B14 hs_14 S_14 ht_14 T_14 ⊢
  refine (s_use at_ dt 1 exT bM bA (-140) exV 1 0 w14 n_q rfl rfl (by decide) (i64_dec (by kernel_rfl)) ok_T ht_14.out).mono ?_
  rintro e v15 ⟨av, dv, rfl, hN, hb⟩
  have hb0 := hb
  have ld0 := cell_of (blk_keep T_14.out hb) 0 _ rfl
  have ll0 := blk_lt (blk_keep T_14.out hb)
  have hal : Below v15.heap.size v15 (v15.alloc (.cells #[.slice av 1 dv] 24)) := (Below.refl _ _).alloc (Nat.le_refl _) _
  have hnw := blk_new v15 (.cells #[.slice av 1 dv] 24)
  obtain ⟨XV, hX⟩ : ∃ X, X = v15.heap.size := ⟨_, rfl⟩
  have B15 := Lib.hid (bt (bt B14.out hb (Nat.le_refl _)) hal (Nat.le_refl _))
  have hs_15 := Lib.hid ((hs_14.out.below hb).below hal)
  have S_15 := Lib.hid (blk_keep (blk_keep S_14.out hb) hal)
  have ht_15 := Lib.hid ((ht_14.out.below hb).below hal)
  have T_15 := Lib.hid (blk_keep (blk_keep T_14.out hb) hal)
  have hv_15 := Lib.hid ((hN.st).below hal)
  rw [← hX] at hnw
  have V_15 := Lib.hid hnw
  clear hb hb0 B14 hs_14 S_14 ht_14 T_14 hN
  go_wp2_with fail
  clear ld0 ll0
  rw [← hX]
  clear hX
  clear hal hnw
  generalize v15.alloc _ = w15 at B15 hs_15 S_15 ht_15 T_15 hv_15 V_15 ⊢
  refine (s_use at_ dt 1 exT bM bA (-141) [] 0 20 w15 n_r rfl rfl (by decide) (i64_dec (by kernel_rfl)) ok_T ht_15.out).mono ?_
  rintro e v16 ⟨x11, y11, rfl, hN, hb⟩
  have hb0 := hb
  have ld0 := cell_of (blk_keep S_15.out hb) 0 _ rfl
  have ll0 := blk_lt (blk_keep S_15.out hb)
  have hal : Below v16.heap.size v16 (v16.alloc (.cells #[.slice x11 0 y11] 24)) := (Below.refl _ _).alloc (Nat.le_refl _) _
  have hnw := blk_new v16 (.cells #[.slice x11 0 y11] 24)
  have B16 := Lib.hid (bt (bt B15.out hb (Nat.le_refl _)) hal (Nat.le_refl _))
  have hs_16 := Lib.hid ((hs_15.out.below hb).below hal)
  have S_16 := Lib.hid (blk_keep (blk_keep S_15.out hb) hal)
  have ht_16 := Lib.hid ((ht_15.out.below hb).below hal)
  have T_16 := Lib.hid (blk_keep (blk_keep T_15.out hb) hal)
  have hv_16 := Lib.hid ((hv_15.out.below hb).below hal)
  have V_16 := Lib.hid (blk_keep (blk_keep V_15.out hb) hal)
  clear hb hb0 B15 hs_15 S_15 ht_15 T_15 hv_15 V_15 hN
  go_wp2_with fail
  clear ld0 ll0
  clear hal hnw
  generalize v16.alloc _ = w16 at B16 hs_16 S_16 ht_16 T_16 hv_16 V_16 ⊢
  clear T_16
  clear ht_16
  refine (s_close a1 d1 1 exS bM bA [] 0 20 w16 n_v rfl rfl (by decide)  ok_S hs_16.out).mono ?_
  rintro e v17 ⟨x12, y12, rfl, hN, hb⟩
  have hb0 := hb
  have ld0 := cell_of (blk_keep S_16.out hb) 0 _ rfl
  have ll0 := blk_lt (blk_keep S_16.out hb)
  have hal : Below v17.heap.size v17 (v17.alloc (.cells #[.slice x12 0 y12] 24)) := (Below.refl _ _).alloc (Nat.le_refl _) _
  have hnw := blk_new v17 (.cells #[.slice x12 0 y12] 24)
  have B17 := Lib.hid (bt (bt B16.out hb (Nat.le_refl _)) hal (Nat.le_refl _))
  have hs_17 := Lib.hid ((hs_16.out.below hb).below hal)
  have S_17 := Lib.hid (blk_keep (blk_keep S_16.out hb) hal)
  have hv_17 := Lib.hid ((hv_16.out.below hb).below hal)
  have V_17 := Lib.hid (blk_keep (blk_keep V_16.out hb) hal)
  clear hb hb0 B16 hs_16 S_16 hv_16 V_16 hN
  go_wp2_with fail
  clear ld0 ll0
  clear hal hnw
  generalize v17.alloc _ = w17 at B17 hs_17 S_17 hv_17 V_17 ⊢
  refine (s_move a1 d1 1 exS bM bA bA 1 [] 0 2 w17 n_w rfl rfl (by decide)  ok_S hs_17.out).mono ?_
  rintro e v18 ⟨x13, y13, rfl, hN, hb⟩
  have hb0 := hb
  have ld0 := cell_of (blk_keep S_17.out hb) 0 _ rfl
  have ll0 := blk_lt (blk_keep S_17.out hb)
  have hal : Below v18.heap.size v18 (v18.alloc (.cells #[.slice x13 0 y13] 24)) := (Below.refl _ _).alloc (Nat.le_refl _) _
  have hnw := blk_new v18 (.cells #[.slice x13 0 y13] 24)
  have B18 := Lib.hid (bt (bt B17.out hb (Nat.le_refl _)) hal (Nat.le_refl _))
  have hs_18 := Lib.hid ((hs_17.out.below hb).below hal)
  have S_18 := Lib.hid (blk_keep (blk_keep S_17.out hb) hal)
  have hv_18 := Lib.hid ((hv_17.out.below hb).below hal)
  have V_18 := Lib.hid (blk_keep (blk_keep V_17.out hb) hal)
  clear hb hb0 B17 hs_17 S_17 hv_17 V_17 hN
  go_wp2_with fail
  clear ld0 ll0
  clear hal hnw
  generalize v18.alloc _ = w18 at B18 hs_18 S_18 hv_18 V_18 ⊢
  refine (s_move a1 d1 1 exS bM bA bC 1 [] 0 6 w18 n_y rfl rfl (by decide)  ok_S hs_18.out).mono ?_
  rintro e v19 ⟨x14, y14, rfl, hN, hb⟩
  have hb0 := hb
  have ld0 := cell_of (blk_keep V_18.out hb) 0 _ rfl
  have ll0 := blk_lt (blk_keep V_18.out hb)
  have hal : Below v19.heap.size v19 (v19.alloc (.cells #[.slice x14 0 y14] 24)) := (Below.refl _ _).alloc (Nat.le_refl _) _
  have hnw := blk_new v19 (.cells #[.slice x14 0 y14] 24)
  have B19 := Lib.hid (bt (bt B18.out hb (Nat.le_refl _)) hal (Nat.le_refl _))
  have hs_19 := Lib.hid ((hs_18.out.below hb).below hal)
  have S_19 := Lib.hid (blk_keep (blk_keep S_18.out hb) hal)
  have hv_19 := Lib.hid ((hv_18.out.below hb).below hal)
  have V_19 := Lib.hid (blk_keep (blk_keep V_18.out hb) hal)
  clear hb hb0 B18 hs_18 S_18 hv_18 V_18 hN
  go_wp2_with fail
  clear ld0 ll0
  clear hal hnw
  generalize v19.alloc _ = w19 at B19 hs_19 S_19 hv_19 V_19 ⊢
  refine (s_check av dv 1 exV 0 w19 n_c rfl (by decide) ok_V hv_19.out).mono ?_
  rintro e v20 ⟨rfl, hb⟩
  have hb0 := hb
  have B20 := Lib.hid (bt B19.out hb (Nat.le_refl _))
  have hs_20 := Lib.hid (hs_19.out.below hb)
  have S_20 := Lib.hid (blk_keep S_19.out hb)
  have hv_20 := Lib.hid (hv_19.out.below hb)
  have V_20 := Lib.hid (blk_keep V_19.out hb)
  clear hb hb0 B19 hs_19 S_19 hv_19 V_19 
  go_wp2_with fail
  refine (alive_any v20).mono ?_
  rintro e v21 ⟨rfl, hb⟩
  have hb0 := hb
  have B21 := Lib.hid (bt B20.out hb (Nat.le_refl _))
  have hs_21 := Lib.hid (hs_20.out.below hb)
  have S_21 := Lib.hid (blk_keep S_20.out hb)
  have hv_21 := Lib.hid (hv_20.out.below hb)
  have V_21 := Lib.hid (blk_keep V_20.out hb)
  clear hb hb0 B20 hs_20 S_20 hv_20 V_20 
  go_wp2_with fail
  go_ret
  exact ⟨rfl, B21.out⟩
end Go.Proofs.Ytoemjpfoddeinaa.Mb
