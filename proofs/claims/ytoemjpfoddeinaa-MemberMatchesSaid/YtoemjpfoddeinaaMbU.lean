/-
  Member: the chapter's example; the walks of example and alive.
-/
import Derived.Test.YtoemjpfoddeinaaMbT
namespace Go.Proofs.Ytoemjpfoddeinaa.Mb
open Go.RowKit Go.Proofs.Ytoemjpfoddeinaa Go.Proofs.Ytoemjpfoddeinaa.Ls Go.Proofs.Ytoemjpfoddeinaa.Kb
open Go.Proofs.Ytoemjpfoddeinaa.Nm hiding ret_bool ret_int

def bM : ByteArray := ⟨#[109]⟩
def bA : ByteArray := ⟨#[97]⟩
def bB : ByteArray := ⟨#[98]⟩
def ex1 : List Me := [⟨bM, 1, false, 100, []⟩]
def ex2 : List Me := [⟨bM, 1, false, 100, [⟨bB, true, 50, 0⟩]⟩]
def ex3 : List Me := [⟨bM, 1, false, 100, [⟨bA, false, 80, 0⟩, ⟨bB, true, 50, 0⟩]⟩]
def ex4 : List Me := [⟨bM, 1, false, 100, [⟨bA, false, 80, 70⟩, ⟨bB, true, 50, 0⟩]⟩]
def exM (u v : Int) : Me := ⟨bM, 1, false, 100, [⟨bA, false, 80, u⟩, ⟨bB, true, 50, v⟩]⟩
def exS : List Me := [exM 70 30]
theorem e_1 : joinF [] bM 1 100 = (ex1, 0) := by kernel_rfl
theorem e_2 : chgF ex1 bM (fOpen bB true 50) = (ex2, 0) := by kernel_rfl
theorem e_3 : chgF ex2 bM (fOpen bA false 80) = (ex3, 0) := by kernel_rfl
theorem e_4 : chgF ex3 bM (fUse bA 70) = (ex4, 0) := by kernel_rfl
theorem e_5 : chgF ex4 bM (fUse bB 30) = (exS, 0) := by kernel_rfl
theorem e_6 : chgF exS bM (fUse bB 1) = ([], 52) := by kernel_rfl
theorem e_7 : chgF exS bM (fMove bA bB 20) = ([exM 50 50], 0) := by kernel_rfl
theorem e_8 : fdM [exM 50 50] bM = (exM 50 50, true) := by kernel_rfl
theorem ok_1 : OkMs ex1 := okMs_dec (by kernel_rfl)
theorem ok_2 : OkMs ex2 := okMs_dec (by kernel_rfl)
theorem ok_3 : OkMs ex3 := okMs_dec (by kernel_rfl)
theorem ok_4 : OkMs ex4 := okMs_dec (by kernel_rfl)
theorem ok_S : OkMs exS := okMs_dec (by kernel_rfl)
theorem len_m : bM.size ≤ maxLen := by decide
theorem len_a : bA.size ≤ maxLen := by decide
theorem len_b : bB.size ≤ maxLen := by decide

set_option maxRecDepth 100000 in
set_option maxHeartbeats 4000000 in
theorem example_any (w : World) : Calls Try.prog 11 #[] w fun e w' => ∃ a' c', e = .returned (.tuple #[.agg #[.slice a' 1 c'], .bool true]) ∧ StO w' w.heap.size a' c' exS ∧ Below w.heap.size w w' := by
  have hb0 : Below w.heap.size w (w.alloc (.cells #[.slice none 0 0] 24)) := (Below.refl _ _).alloc (Nat.le_refl _) _
  have R0 := Lib.hid (blk_new w (.cells #[.slice none 0 0] 24))
  go_enter Try.func11, Try.ntmps11
  go_wp2_with fail
  generalize w.alloc _ = w0 at hb0 R0 ⊢
  refine (new_any w0).mono ?_
  rintro e w1 ⟨rfl, hb⟩
  have c1 := bt hb0 hb (Nat.le_refl _)
  have R1 := Lib.hid (blk_keep R0.out hb)
  clear hb hb0 R0
  go_wp2_with fail
  refine (s_join none 0 0 [] bM 1 100 ex1 1 0 w1 e_1 rfl rfl (by decide) len_m (by decide) (i64_dec (by kernel_rfl)) (fun _ h => by cases h) (st_nil _)).mono ?_
  rintro e w2 ⟨a1, c1', rfl, hS, hb⟩
  have c2 := bt c1 hb (Nat.le_refl _)
  have R2 := Lib.hid (blk_keep R1.out hb)
  have hl2 := blk_lt R2.out
  have hal : Below w2.heap.size w2 (w2.alloc (.cells #[.slice a1 1 c1'] 24)) := (Below.refl _ _).alloc (Nat.le_refl _) _
  have BX := Lib.hid (blk_new w2 (.cells #[.slice a1 1 c1'] 24))
  have HS := Lib.hid ((hS.lower c1.size).below hal)
  have R3 := Lib.hid (blk_keep R2.out hal)
  have c3 := bt c2 hal (Nat.le_refl _)
  obtain ⟨X, hX⟩ : ∃ X, X = w2.heap.size := ⟨_, rfl⟩
  have hXR : w.heap.size < X := by rw [hX]; exact hl2
  clear hb hS R1 R2 c1 c2 hal
  go_wp2_with fail
  rw [← hX] at BX ⊢
  generalize w2.alloc _ = w3 at BX HS R3 c3 ⊢
  clear hX hl2
  refine (s_open a1 c1' 1 ex1 bM bB true 50 ex2 1 0 w3 e_2 rfl rfl (by decide) len_b ok_1 HS.out.st).mono ?_
  rintro e v4 ⟨b4, d4, rfl, hS, hb⟩
  have BX4 := Lib.hid (blk_keep BX.out hb)
  have R4 := Lib.hid (blk_keep R3.out hb)
  have cc := bt c3 hb (Nat.le_refl _)
  have x0 := cell_of BX4.out 0 _ rfl
  have xf := frozen_of BX4.out 0
  clear HS BX R3
  have HS := Lib.hid ((hS.lower c3.size).far (i := 0) BX4.out (.slice b4 1 d4))
  have BX := Lib.hid (set1 BX4.out (.slice b4 1 d4))
  have RR := Lib.hid (set_other (i := 0) R4.out (show X ≠ w.heap.size by omega) (.slice b4 1 d4))
  have c4 := cc.setCell (p := ⟨X, 0, none⟩) (show w.heap.size ≤ X by omega) (.slice b4 1 d4)
  clear hb hS R4 cc BX4 c3
  go_wp2_with fail
  clear x0 xf
  generalize v4.setCell _ _ = w4 at HS BX RR c4 ⊢
  have R4 := RR
  clear RR
  refine (s_open b4 d4 1 ex2 bM bA false 80 ex3 1 0 w4 e_3 rfl rfl (by decide) len_a ok_2 HS.out.st).mono ?_
  rintro e v5 ⟨b5, d5, rfl, hS, hb⟩
  have BX5 := Lib.hid (blk_keep BX.out hb)
  have R5 := Lib.hid (blk_keep R4.out hb)
  have cc := bt c4 hb (Nat.le_refl _)
  have x0 := cell_of BX5.out 0 _ rfl
  have xf := frozen_of BX5.out 0
  clear HS BX R4
  have HS := Lib.hid ((hS.lower c4.size).far (i := 0) BX5.out (.slice b5 1 d5))
  have BX := Lib.hid (set1 BX5.out (.slice b5 1 d5))
  have RR := Lib.hid (set_other (i := 0) R5.out (show X ≠ w.heap.size by omega) (.slice b5 1 d5))
  have c5 := cc.setCell (p := ⟨X, 0, none⟩) (show w.heap.size ≤ X by omega) (.slice b5 1 d5)
  clear hb hS R5 cc BX5 c4
  go_wp2_with fail
  clear x0 xf
  generalize v5.setCell _ _ = w5 at HS BX RR c5 ⊢
  have R5 := RR
  clear RR
  refine (s_use b5 d5 1 ex3 bM bA 70 ex4 1 0 w5 e_4 rfl rfl (by decide) (i64_dec (by kernel_rfl)) ok_3 HS.out.st).mono ?_
  rintro e v6 ⟨b6, d6, rfl, hS, hb⟩
  have BX6 := Lib.hid (blk_keep BX.out hb)
  have R6 := Lib.hid (blk_keep R5.out hb)
  have cc := bt c5 hb (Nat.le_refl _)
  have x0 := cell_of BX6.out 0 _ rfl
  have xf := frozen_of BX6.out 0
  clear HS BX R5
  have HS := Lib.hid ((hS.lower c5.size).far (i := 0) BX6.out (.slice b6 1 d6))
  have BX := Lib.hid (set1 BX6.out (.slice b6 1 d6))
  have RR := Lib.hid (set_other (i := 0) R6.out (show X ≠ w.heap.size by omega) (.slice b6 1 d6))
  have c6 := cc.setCell (p := ⟨X, 0, none⟩) (show w.heap.size ≤ X by omega) (.slice b6 1 d6)
  clear hb hS R6 cc BX6 c5
  go_wp2_with fail
  clear x0 xf
  generalize v6.setCell _ _ = w6 at HS BX RR c6 ⊢
  have R6 := RR
  clear RR
  refine (s_use b6 d6 1 ex4 bM bB 30 exS 1 0 w6 e_5 rfl rfl (by decide) (i64_dec (by kernel_rfl)) ok_4 HS.out.st).mono ?_
  rintro e v7 ⟨b7, d7, rfl, hS, hb⟩
  have BX7 := Lib.hid (blk_keep BX.out hb)
  have R7 := Lib.hid (blk_keep R6.out hb)
  have cc := bt c6 hb (Nat.le_refl _)
  have x0 := cell_of BX7.out 0 _ rfl
  have xf := frozen_of BX7.out 0
  clear HS BX R6
  have HS := Lib.hid ((hS.lower c6.size).far (i := 0) BX7.out (.slice b7 1 d7))
  have BX := Lib.hid (set1 BX7.out (.slice b7 1 d7))
  have RR := Lib.hid (set_other (i := 0) R7.out (show X ≠ w.heap.size by omega) (.slice b7 1 d7))
  have c7 := cc.setCell (p := ⟨X, 0, none⟩) (show w.heap.size ≤ X by omega) (.slice b7 1 d7)
  clear hb hS R7 cc BX7 c6
  have y0 := cell_of RR.out 0 _ rfl
  have yf := frozen_of RR.out 0
  have hne : X ≠ w.heap.size := by omega
  go_wp2_with fail
  have HS2 := Lib.hid (HS.out.far (i := 0) RR.out (.slice b7 1 d7))
  have h5 := set1 RR.out (.slice b7 1 d7)
  have r0 := cell_of h5 0 _ rfl
  exact bodyPost_ret (v := .tuple #[.agg #[.slice b7 1 d7], .bool true]) (by simp [results, Try.results11, go_sem, r0]) rfl ⟨b7, d7, rfl, HS2.out, c7.setCell (p := ⟨w.heap.size, 0, none⟩) (Nat.le_refl _) _⟩

set_option maxRecDepth 100000 in
set_option maxHeartbeats 4000000 in
theorem alive_any (w : World) : Calls Try.prog 23 #[] w fun e w' => e = .returned (.bool true) ∧ Below w.heap.size w w' := by
  go_enter Try.func23, Try.ntmps23
  go_wp2_with fail
  refine (example_any w).mono ?_
  rintro e v1 ⟨a1, d1, rfl, hS, hb⟩
  have hal : Below v1.heap.size v1 (v1.alloc (.cells #[.slice a1 1 d1] 24)) := (Below.refl _ _).alloc (Nat.le_refl _) _
  have BX1 := Lib.hid (blk_new v1 (.cells #[.slice a1 1 d1] 24))
  have HS1 := Lib.hid (hS.st.below hal)
  have c1 := bt hb hal (Nat.le_refl _)
  obtain ⟨X, hX⟩ : ∃ X, X = v1.heap.size := ⟨_, rfl⟩
  clear hb hS hal
  go_wp2_with fail
  rw [← hX] at BX1 ⊢
  generalize v1.alloc _ = w1 at BX1 HS1 c1 ⊢
  clear hX
  refine (s_use a1 d1 1 exS bM bB 1 [] 0 52 w1 e_6 rfl rfl (by decide) (i64_dec (by kernel_rfl)) ok_S HS1.out).mono ?_
  rintro e v2 ⟨a2, d2, rfl, hS, hb⟩
  have hal : Below v2.heap.size v2 (v2.alloc (.cells #[.slice a2 0 d2] 24)) := (Below.refl _ _).alloc (Nat.le_refl _) _
  have BX2 := Lib.hid (blk_keep (blk_keep BX1.out hb) hal)
  have HS2 := Lib.hid ((HS1.out.below hb).below hal)
  have c2 := bt (bt c1 hb (Nat.le_refl _)) hal (Nat.le_refl _)
  have x1 := cell_of (blk_keep BX1.out hb) 0 _ rfl
  have xl := blk_lt (blk_keep BX1.out hb)
  clear hb hS hal HS1 BX1 c1
  go_wp2_with fail
  clear x1 xl
  generalize v2.alloc _ = w2 at BX2 HS2 c2 ⊢
  refine (s_move a1 d1 1 exS bM bA bB 20 [exM 50 50] 1 0 w2 e_7 rfl rfl (by decide) ok_S HS2.out).mono ?_
  rintro e v3 ⟨a3, d3, rfl, hS, hb⟩
  have hal : Below v3.heap.size v3 (v3.alloc (.cells #[.slice a3 1 d3] 24)) := (Below.refl _ _).alloc (Nat.le_refl _) _
  have HS3 := Lib.hid (hS.st.below hal)
  have c3 := bt (bt c2 hb (Nat.le_refl _)) hal (Nat.le_refl _)
  clear hb hS hal HS2 BX2 c2
  go_wp2_with fail
  generalize v3.alloc _ = w3 at HS3 c3 ⊢
  refine (s_mfind a3 d3 1 [exM 50 50] bM (exM 50 50) 2 true w3 e_8 rfl rfl (by decide) (by decide) HS3.out).mono ?_
  rintro e v4 ⟨a4, d4, rfl, hO, hb⟩
  have hA := (hO.sl acc_len).1
  have hal : Below v4.heap.size v4 (v4.alloc (.cells #[.string bM, .int .u8 1, .bool false, .int .i64 100, .slice a4 2 d4] 30)) := (Below.refl _ _).alloc (Nat.le_refl _) _
  have c4 := bt (bt c3 hb (Nat.le_refl _)) hal (Nat.le_refl _)
  obtain ⟨b, off, rfl, q0, q1, q2, q3⟩ := at_a hA 0 (by decide)
  obtain ⟨p0, p1, p2, p3⟩ := at_a' hA 1 (by decide)
  have q3 : v4.cell? ⟨b, off + 0 * 4 + 3, none⟩ = some (.int .i64 50) := q3
  have p3 : v4.cell? ⟨b, off + 1 * 4 + 3, none⟩ = some (.int .i64 50) := p3
  have ql := World.block_lt_of_cell? _ _ q3
  simp only [Nat.zero_mul, Nat.one_mul, Nat.add_zero] at q3 p3
  clear hb hO hA hal HS3 c3 q0 q1 q2 p0 p1 p2
  go_wp2_with fail
  go_ret
  exact ⟨rfl, c4⟩
end Go.Proofs.Ytoemjpfoddeinaa.Mb
