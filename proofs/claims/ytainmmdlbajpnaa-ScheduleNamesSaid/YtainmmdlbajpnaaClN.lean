/-
  The walk of the law ScheduleNames.
-/
import Derived.Test.YtainmmdlbajpnaaClM
import Derived.Test.YtainmmdlbajpnaaClJ
namespace Go.Proofs.Ytainmmdlbajpnaa.Sc
open Go.RowKit Go.Proofs.Ytainmmdlbajpnaa Go.Proofs.Ytainmmdlbajpnaa.Ls Go.Proofs.Ytainmmdlbajpnaa.Kb
open Go.Proofs.Ytainmmdlbajpnaa.Dt hiding ret_bool ret_int

/-- periods laid out in a block -/
theorem atp_block {w : World} {b : Nat} {cs : Array Value} {t : TypeId} (P : List (Int × Int × Int × Int)) (h : w.heap[b]? = some (.cells cs t (0, 0))) (hc : cs.toList = P.flatMap pqc) : AtL w 4 pqc (some ⟨b, 0, none⟩) P := fun i x hx => ⟨b, 0, rfl, fun j u hu => by
  have hj : j < 4 := by
    rw [← pqc_len x]
    exact (List.getElem?_eq_some_iff.1 hu).1
  have h1 : cs[i * 4 + j]? = some u := by
    rw [← Array.getElem?_toList, hc, flat_get pqc 4 pqc_len P i j hj, hx]
    exact hu
  rw [Nat.zero_add]
  exact cell_of h _ _ h1⟩

set_option maxRecDepth 100000 in
set_option maxHeartbeats 4000000 in
theorem names_walk (w : World) :
    Calls Try.prog 9 #[] w fun e w' => e = .returned (.bool true) ∧ Below w.heap.size w w' := by
  have HF1 := Lib.hid (fun (w' : World) => find_any s2 _ _ _ _ _ w' (at0 s2 rfl (by decide) _) r2 f1)
  have HF2 := Lib.hid (fun (w' : World) => find_any s2 _ _ _ _ _ w' (at0 s2 rfl (by decide) _) r2 f2)
  have HF3 := Lib.hid (fun (w' : World) => find_any s2 _ _ _ _ _ w' (at0 s2 rfl (by decide) _) r2 f3)
  have HF4 := Lib.hid (fun (w' : World) => find_any s2 _ _ _ _ _ w' (at0 s2 rfl (by decide) _) r2 f4)
  have HF5 := Lib.hid (fun (w' : World) => find_any s2 _ _ _ _ _ w' (at0 s2 rfl (by decide) _) r2 f5)
  go_enter Try.func9, Try.ntmps9
  go_wp2_with fail
  have j1 := blk_new w (.cells #[.int .i64 0, .int .i64 36524, .int .i64 73049, .int .i64 99999] 3)
  have j2 : Below w.heap.size w (w.alloc (.cells #[.int .i64 0, .int .i64 36524, .int .i64 73049, .int .i64 99999] 3)) := (Below.refl _ _).alloc (Nat.le_refl _) _
  generalize w.alloc _ = v1 at j1 j2 ⊢
  refine Calls.mono (gives_yes u1 _ (some ⟨w.heap.size, 0, none⟩) 4 4 v1 (at0 _ rfl (by decide) _) q1 rfl (atl_block _ j1 rfl)) ?_
  rintro e w1 ⟨rfl, b1⟩
  have c1 := bt j2 b1 (Nat.le_refl _)
  clear j1 j2 b1
  go_wp2_with fail
  have j1 := blk_new w1 (.cells #[.int .i64 5, .int .i64 6] 3)
  have j2 : Below w1.heap.size w1 (w1.alloc (.cells #[.int .i64 5, .int .i64 6] 3)) := (Below.refl _ _).alloc (Nat.le_refl _) _
  generalize w1.alloc _ = v2 at j1 j2 ⊢
  refine Calls.mono (gives_yes u2 _ (some ⟨w1.heap.size, 0, none⟩) 2 2 v2 (at0 _ rfl (by decide) _) q2 rfl (atl_block _ j1 rfl)) ?_
  rintro e w2 ⟨rfl, b2⟩
  have c2 := bt c1 (bt j2 b2 (Nat.le_refl _)) (Nat.le_refl _)
  clear j1 j2 b2 c1
  go_wp2_with fail
  refine Calls.mono (dates_any u3 _ _ w2 (at0 _ rfl (by decide) _) q3) ?_
  rintro e w3 ⟨a3, n3, rfl, _, b3⟩
  have c3 := bt c2 b3 (Nat.le_refl _)
  clear c2 b3
  go_wp2_with fail
  refine Calls.mono (dates_any u4 _ _ w3 (at0 _ rfl (by decide) _) q4) ?_
  rintro e w4 ⟨a4, n4, rfl, _, b4⟩
  rw [l4]
  have c4 := bt c3 b4 (Nat.le_refl _)
  clear c3 b4
  go_wp2_with fail
  refine (two_any w4).mono ?_
  rintro e w5 ⟨rfl, b5⟩
  have c5 := bt c4 b5 (Nat.le_refl _)
  clear c4 b5
  go_wp2_with fail
  refine Calls.mono (HF1.out w5) ?_
  rintro e w6 ⟨rfl, b6⟩
  have c6 := bt c5 b6 (Nat.le_refl _)
  clear c5 b6
  go_wp2_with fail
  refine (two_any w6).mono ?_
  rintro e w7 ⟨rfl, b7⟩
  have c7 := bt c6 b7 (Nat.le_refl _)
  clear c6 b7
  go_wp2_with fail
  refine Calls.mono (HF2.out w7) ?_
  rintro e w8 ⟨rfl, b8⟩
  have c8 := bt c7 b8 (Nat.le_refl _)
  clear c7 b8
  go_wp2_with fail
  refine (two_any w8).mono ?_
  rintro e w9 ⟨rfl, b9⟩
  have c9 := bt c8 b9 (Nat.le_refl _)
  clear c8 b9
  go_wp2_with fail
  refine Calls.mono (HF3.out w9) ?_
  rintro e w10 ⟨rfl, b10⟩
  have c10 := bt c9 b10 (Nat.le_refl _)
  clear c9 b10
  go_wp2_with fail
  refine (two_any w10).mono ?_
  rintro e w11 ⟨rfl, b11⟩
  have c11 := bt c10 b11 (Nat.le_refl _)
  clear c10 b11
  go_wp2_with fail
  refine Calls.mono (HF4.out w11) ?_
  rintro e w12 ⟨rfl, b12⟩
  have c12 := bt c11 b12 (Nat.le_refl _)
  clear c11 b12
  go_wp2_with fail
  refine (two_any w12).mono ?_
  rintro e w13 ⟨rfl, b13⟩
  have c13 := bt c12 b13 (Nat.le_refl _)
  clear c12 b13
  go_wp2_with fail
  refine Calls.mono (HF5.out w13) ?_
  rintro e w14 ⟨rfl, b14⟩
  have c14 := bt c13 b14 (Nat.le_refl _)
  clear c13 b14
  go_wp2_with fail
  refine (two_any w14).mono ?_
  rintro e w15 ⟨rfl, b15⟩
  have c15 := bt c14 b15 (Nat.le_refl _)
  clear c14 b15
  clear HF1 HF2 HF3 HF4 HF5
  go_wp2_with fail
  have j2 : Below w15.heap.size w15 (w15.alloc (.cells #[.int .i64 45304, .int .i64 45472, .int .i64 2, .bool false, .bool false, .int .u8 0, .int .u8 3, .int .u8 96, .slice none 0 0] 26)) := (Below.refl _ _).alloc (Nat.le_refl _) _
  generalize w15.alloc _ = v16 at j2 ⊢
  have c16 := bt c15 j2 (Nat.le_refl _)
  refine Calls.mono (periods_any u5 _ _ _ _ (at0 u5 rfl (by decide) v16) (by decide) q5 p5) ?_
  rintro e w16 ⟨pa, pc', rfl, ho, b16⟩
  have c17 := bt c16 b16 (Nat.le_refl _)
  have HP := Lib.hid (ho.sl pqc_len).1
  clear c15 j2 c16 b16 ho
  go_wp2_with fail
  have j1 := blk_new w16 (.cells #[.int .i64 99999] 3)
  have j2 : Below w16.heap.size w16 (w16.alloc (.cells #[.int .i64 99999] 3)) := (Below.refl _ _).alloc (Nat.le_refl _) _
  generalize w16.alloc _ = v17 at j1 j2 ⊢
  refine Calls.mono (periods_any (u6 (some ⟨w16.heap.size, 0, none⟩) 1) _ _ _ _ ⟨by show (1 : Nat) ≤ maxLen; unfold maxLen; omega, atl_block [99999] j1 rfl, by show (-9223372036854775808 : Int) ≤ 1 ∧ (1 : Int) ≤ 9223372036854775807; decide⟩ (by show (0 : Int) ≤ 0; decide) (q6 _ _) (p6 _ _)) ?_
  rintro e w17 ⟨qa, qc', rfl, _, b17⟩
  have k17 := bt j2 b17 (Nat.le_refl _)
  have c18 := bt c17 k17 (Nat.le_refl _)
  have HP17 := Lib.hid (HP.out.below k17)
  clear HP c17 j1 j2 b17 k17
  go_wp2_with fail
  have j1 := blk_new w17 (.cells #[.int .i64 5, .int .i64 5, .int .i64 1, .bool false, .bool false, .int .u8 0, .int .u8 0, .int .u8 0, .slice none 0 0, .int .i64 (-1), .int .i64 5, .int .i64 1, .bool false, .bool false, .int .u8 0, .int .u8 0, .int .u8 0, .slice none 0 0, .int .i64 1, .int .i64 100000, .int .i64 1, .bool false, .bool false, .int .u8 0, .int .u8 0, .int .u8 0, .slice none 0 0, .int .i64 1, .int .i64 5, .int .i64 0, .bool false, .bool false, .int .u8 0, .int .u8 0, .int .u8 0, .slice none 0 0, .int .i64 1, .int .i64 5, .int .i64 1201, .bool false, .bool false, .int .u8 0, .int .u8 0, .int .u8 0, .slice none 0 0, .int .i64 1, .int .i64 5, .int .i64 1, .bool false, .bool false, .int .u8 2, .int .u8 0, .int .u8 0, .slice none 0 0, .int .i64 1, .int .i64 5, .int .i64 1, .bool false, .bool false, .int .u8 0, .int .u8 5, .int .u8 0, .slice none 0 0, .int .i64 1, .int .i64 5, .int .i64 1, .bool false, .bool false, .int .u8 0, .int .u8 0, .int .u8 127, .slice none 0 0] 26)
  have j2 : Below w17.heap.size w17 (w17.alloc (.cells #[.int .i64 5, .int .i64 5, .int .i64 1, .bool false, .bool false, .int .u8 0, .int .u8 0, .int .u8 0, .slice none 0 0, .int .i64 (-1), .int .i64 5, .int .i64 1, .bool false, .bool false, .int .u8 0, .int .u8 0, .int .u8 0, .slice none 0 0, .int .i64 1, .int .i64 100000, .int .i64 1, .bool false, .bool false, .int .u8 0, .int .u8 0, .int .u8 0, .slice none 0 0, .int .i64 1, .int .i64 5, .int .i64 0, .bool false, .bool false, .int .u8 0, .int .u8 0, .int .u8 0, .slice none 0 0, .int .i64 1, .int .i64 5, .int .i64 1201, .bool false, .bool false, .int .u8 0, .int .u8 0, .int .u8 0, .slice none 0 0, .int .i64 1, .int .i64 5, .int .i64 1, .bool false, .bool false, .int .u8 2, .int .u8 0, .int .u8 0, .slice none 0 0, .int .i64 1, .int .i64 5, .int .i64 1, .bool false, .bool false, .int .u8 0, .int .u8 5, .int .u8 0, .slice none 0 0, .int .i64 1, .int .i64 5, .int .i64 1, .bool false, .bool false, .int .u8 0, .int .u8 0, .int .u8 127, .slice none 0 0] 26)) := (Below.refl _ _).alloc (Nat.le_refl _) _
  generalize w17.alloc _ = v18 at j1 j2 ⊢
  have c19 := bt c18 j2 (Nat.le_refl _)
  have HP18 := Lib.hid (HP17.out.below j2)
  have HX := Lib.hid j1
  clear HP17 j1 j2 c18
  go_loopw [21, 95] (fun o i wr => ∃ k : Nat, k ≤ 8 ∧ i = .int .i64 k ∧ o = .bool true ∧ Below v18.heap.size v18 wr) (fun _ i _ => 8 - (intOf i).toNat)
  case atStart => exact ⟨0, by omega, rfl, rfl, Below.refl _ _⟩
  case round =>
    obtain ⟨k, hk, rfl, rfl, kb⟩ := hrel
    rcases (show k = 8 ∨ k = 0 ∨ k = 1 ∨ k = 2 ∨ k = 3 ∨ k = 4 ∨ k = 5 ∨ k = 6 ∨ k = 7 by omega) with rfl | rfl | rfl | rfl | rfl | rfl | rfl | rfl | rfl
    · go_wp2_with fail
      have j1 := blk_new wr (.cells #[.int .i64 45304, .int .i64 45364, .int .i64 45304, .int .i64 45364, .int .i64 45364, .int .i64 45425, .int .i64 45364, .int .i64 45425, .int .i64 45425, .int .i64 45472, .int .i64 45425, .int .i64 45472] 50)
      have j2 : Below wr.heap.size wr (wr.alloc (.cells #[.int .i64 45304, .int .i64 45364, .int .i64 45304, .int .i64 45364, .int .i64 45364, .int .i64 45425, .int .i64 45364, .int .i64 45425, .int .i64 45425, .int .i64 45472, .int .i64 45425, .int .i64 45472] 50)) := (Below.refl _ _).alloc (Nat.le_refl _) _
      generalize wr.alloc _ = va at j1 j2 ⊢
      have ka := bt kb j2 (Nat.le_refl _)
      refine (sameP_any pa (some ⟨wr.heap.size, 0, none⟩) pc' 3 3 _ va rfl (by unfold maxLen; omega) (HP18.out.below ka) (atp_block _ j1 rfl)).mono ?_
      rintro e vb ⟨rfl, bb⟩
      have kc := bt ka bb (Nat.le_refl _)
      clear j1 j2 ka bb
      go_wp2_with fail
      refine (alive_any vb).mono ?_
      rintro e vc ⟨rfl, bc⟩
      have kd := bt kc bc (Nat.le_refl _)
      go_wp2
      go_ret
      exact ⟨rfl, bt c19 kd (Nat.le_refl _)⟩
    · have hx := blk_keep HX.out kb
      have x0 := cell_of hx 0 _ rfl
      have x1 := cell_of hx 1 _ rfl
      have x2 := cell_of hx 2 _ rfl
      have x3 := cell_of hx 3 _ rfl
      have x4 := cell_of hx 4 _ rfl
      have x5 := cell_of hx 5 _ rfl
      have x6 := cell_of hx 6 _ rfl
      have x7 := cell_of hx 7 _ rfl
      have x8 := cell_of hx 8 _ rfl
      go_wp2_with fail
      have j2 : Below wr.heap.size wr (wr.alloc (.cells #[.int .i64 5, .int .i64 5, .int .i64 1, .bool false, .bool false, .int .u8 0, .int .u8 0, .int .u8 0, .slice none 0 0] 26)) := (Below.refl _ _).alloc (Nat.le_refl _) _
      generalize wr.alloc _ = wa at j2 ⊢
      refine Calls.mono (check_any ⟨5, 5, 1, false, false, 0, 0, 0, none, 0, []⟩ wa (at0 _ rfl (by decide) wa)) ?_
      rintro e wb ⟨rfl, bb⟩
      have ev : eV (schOK ⟨5, 5, 1, false, false, 0, 0, 0, none, 0, []⟩) = 8 := by decide
      rw [ev]
      have kc := bt kb (bt j2 bb (Nat.le_refl _)) (Nat.le_refl _)
      clear ev hx x0 x1 x2 x3 x4 x5 x6 x7 x8 j2 bb
      go_wp2
      go_roundw
      case rel => exact ⟨1, by omega, by go_num, rfl, kc⟩
      case measure => simp [intOf]
    · have hx := blk_keep HX.out kb
      have x0 := cell_of hx 9 _ rfl
      have x1 := cell_of hx 10 _ rfl
      have x2 := cell_of hx 11 _ rfl
      have x3 := cell_of hx 12 _ rfl
      have x4 := cell_of hx 13 _ rfl
      have x5 := cell_of hx 14 _ rfl
      have x6 := cell_of hx 15 _ rfl
      have x7 := cell_of hx 16 _ rfl
      have x8 := cell_of hx 17 _ rfl
      go_wp2_with fail
      have j2 : Below wr.heap.size wr (wr.alloc (.cells #[.int .i64 (-1), .int .i64 5, .int .i64 1, .bool false, .bool false, .int .u8 0, .int .u8 0, .int .u8 0, .slice none 0 0] 26)) := (Below.refl _ _).alloc (Nat.le_refl _) _
      generalize wr.alloc _ = wa at j2 ⊢
      refine Calls.mono (check_any ⟨(-1), 5, 1, false, false, 0, 0, 0, none, 0, []⟩ wa (at0 _ rfl (by decide) wa)) ?_
      rintro e wb ⟨rfl, bb⟩
      have ev : eV (schOK ⟨(-1), 5, 1, false, false, 0, 0, 0, none, 0, []⟩) = 8 := by decide
      rw [ev]
      have kc := bt kb (bt j2 bb (Nat.le_refl _)) (Nat.le_refl _)
      clear ev hx x0 x1 x2 x3 x4 x5 x6 x7 x8 j2 bb
      go_wp2
      go_roundw
      case rel => exact ⟨2, by omega, by go_num, rfl, kc⟩
      case measure => simp [intOf]
    · have hx := blk_keep HX.out kb
      have x0 := cell_of hx 18 _ rfl
      have x1 := cell_of hx 19 _ rfl
      have x2 := cell_of hx 20 _ rfl
      have x3 := cell_of hx 21 _ rfl
      have x4 := cell_of hx 22 _ rfl
      have x5 := cell_of hx 23 _ rfl
      have x6 := cell_of hx 24 _ rfl
      have x7 := cell_of hx 25 _ rfl
      have x8 := cell_of hx 26 _ rfl
      go_wp2_with fail
      have j2 : Below wr.heap.size wr (wr.alloc (.cells #[.int .i64 1, .int .i64 100000, .int .i64 1, .bool false, .bool false, .int .u8 0, .int .u8 0, .int .u8 0, .slice none 0 0] 26)) := (Below.refl _ _).alloc (Nat.le_refl _) _
      generalize wr.alloc _ = wa at j2 ⊢
      refine Calls.mono (check_any ⟨1, 100000, 1, false, false, 0, 0, 0, none, 0, []⟩ wa (at0 _ rfl (by decide) wa)) ?_
      rintro e wb ⟨rfl, bb⟩
      have ev : eV (schOK ⟨1, 100000, 1, false, false, 0, 0, 0, none, 0, []⟩) = 8 := by decide
      rw [ev]
      have kc := bt kb (bt j2 bb (Nat.le_refl _)) (Nat.le_refl _)
      clear ev hx x0 x1 x2 x3 x4 x5 x6 x7 x8 j2 bb
      go_wp2
      go_roundw
      case rel => exact ⟨3, by omega, by go_num, rfl, kc⟩
      case measure => simp [intOf]
    · have hx := blk_keep HX.out kb
      have x0 := cell_of hx 27 _ rfl
      have x1 := cell_of hx 28 _ rfl
      have x2 := cell_of hx 29 _ rfl
      have x3 := cell_of hx 30 _ rfl
      have x4 := cell_of hx 31 _ rfl
      have x5 := cell_of hx 32 _ rfl
      have x6 := cell_of hx 33 _ rfl
      have x7 := cell_of hx 34 _ rfl
      have x8 := cell_of hx 35 _ rfl
      go_wp2_with fail
      have j2 : Below wr.heap.size wr (wr.alloc (.cells #[.int .i64 1, .int .i64 5, .int .i64 0, .bool false, .bool false, .int .u8 0, .int .u8 0, .int .u8 0, .slice none 0 0] 26)) := (Below.refl _ _).alloc (Nat.le_refl _) _
      generalize wr.alloc _ = wa at j2 ⊢
      refine Calls.mono (check_any ⟨1, 5, 0, false, false, 0, 0, 0, none, 0, []⟩ wa (at0 _ rfl (by decide) wa)) ?_
      rintro e wb ⟨rfl, bb⟩
      have ev : eV (schOK ⟨1, 5, 0, false, false, 0, 0, 0, none, 0, []⟩) = 8 := by decide
      rw [ev]
      have kc := bt kb (bt j2 bb (Nat.le_refl _)) (Nat.le_refl _)
      clear ev hx x0 x1 x2 x3 x4 x5 x6 x7 x8 j2 bb
      go_wp2
      go_roundw
      case rel => exact ⟨4, by omega, by go_num, rfl, kc⟩
      case measure => simp [intOf]
    · have hx := blk_keep HX.out kb
      have x0 := cell_of hx 36 _ rfl
      have x1 := cell_of hx 37 _ rfl
      have x2 := cell_of hx 38 _ rfl
      have x3 := cell_of hx 39 _ rfl
      have x4 := cell_of hx 40 _ rfl
      have x5 := cell_of hx 41 _ rfl
      have x6 := cell_of hx 42 _ rfl
      have x7 := cell_of hx 43 _ rfl
      have x8 := cell_of hx 44 _ rfl
      go_wp2_with fail
      have j2 : Below wr.heap.size wr (wr.alloc (.cells #[.int .i64 1, .int .i64 5, .int .i64 1201, .bool false, .bool false, .int .u8 0, .int .u8 0, .int .u8 0, .slice none 0 0] 26)) := (Below.refl _ _).alloc (Nat.le_refl _) _
      generalize wr.alloc _ = wa at j2 ⊢
      refine Calls.mono (check_any ⟨1, 5, 1201, false, false, 0, 0, 0, none, 0, []⟩ wa (at0 _ rfl (by decide) wa)) ?_
      rintro e wb ⟨rfl, bb⟩
      have ev : eV (schOK ⟨1, 5, 1201, false, false, 0, 0, 0, none, 0, []⟩) = 8 := by decide
      rw [ev]
      have kc := bt kb (bt j2 bb (Nat.le_refl _)) (Nat.le_refl _)
      clear ev hx x0 x1 x2 x3 x4 x5 x6 x7 x8 j2 bb
      go_wp2
      go_roundw
      case rel => exact ⟨5, by omega, by go_num, rfl, kc⟩
      case measure => simp [intOf]
    · have hx := blk_keep HX.out kb
      have x0 := cell_of hx 45 _ rfl
      have x1 := cell_of hx 46 _ rfl
      have x2 := cell_of hx 47 _ rfl
      have x3 := cell_of hx 48 _ rfl
      have x4 := cell_of hx 49 _ rfl
      have x5 := cell_of hx 50 _ rfl
      have x6 := cell_of hx 51 _ rfl
      have x7 := cell_of hx 52 _ rfl
      have x8 := cell_of hx 53 _ rfl
      go_wp2_with fail
      have j2 : Below wr.heap.size wr (wr.alloc (.cells #[.int .i64 1, .int .i64 5, .int .i64 1, .bool false, .bool false, .int .u8 2, .int .u8 0, .int .u8 0, .slice none 0 0] 26)) := (Below.refl _ _).alloc (Nat.le_refl _) _
      generalize wr.alloc _ = wa at j2 ⊢
      refine Calls.mono (check_any ⟨1, 5, 1, false, false, 2, 0, 0, none, 0, []⟩ wa (at0 _ rfl (by decide) wa)) ?_
      rintro e wb ⟨rfl, bb⟩
      have ev : eV (schOK ⟨1, 5, 1, false, false, 2, 0, 0, none, 0, []⟩) = 8 := by decide
      rw [ev]
      have kc := bt kb (bt j2 bb (Nat.le_refl _)) (Nat.le_refl _)
      clear ev hx x0 x1 x2 x3 x4 x5 x6 x7 x8 j2 bb
      go_wp2
      go_roundw
      case rel => exact ⟨6, by omega, by go_num, rfl, kc⟩
      case measure => simp [intOf]
    · have hx := blk_keep HX.out kb
      have x0 := cell_of hx 54 _ rfl
      have x1 := cell_of hx 55 _ rfl
      have x2 := cell_of hx 56 _ rfl
      have x3 := cell_of hx 57 _ rfl
      have x4 := cell_of hx 58 _ rfl
      have x5 := cell_of hx 59 _ rfl
      have x6 := cell_of hx 60 _ rfl
      have x7 := cell_of hx 61 _ rfl
      have x8 := cell_of hx 62 _ rfl
      go_wp2_with fail
      have j2 : Below wr.heap.size wr (wr.alloc (.cells #[.int .i64 1, .int .i64 5, .int .i64 1, .bool false, .bool false, .int .u8 0, .int .u8 5, .int .u8 0, .slice none 0 0] 26)) := (Below.refl _ _).alloc (Nat.le_refl _) _
      generalize wr.alloc _ = wa at j2 ⊢
      refine Calls.mono (check_any ⟨1, 5, 1, false, false, 0, 5, 0, none, 0, []⟩ wa (at0 _ rfl (by decide) wa)) ?_
      rintro e wb ⟨rfl, bb⟩
      have ev : eV (schOK ⟨1, 5, 1, false, false, 0, 5, 0, none, 0, []⟩) = 8 := by decide
      rw [ev]
      have kc := bt kb (bt j2 bb (Nat.le_refl _)) (Nat.le_refl _)
      clear ev hx x0 x1 x2 x3 x4 x5 x6 x7 x8 j2 bb
      go_wp2
      go_roundw
      case rel => exact ⟨7, by omega, by go_num, rfl, kc⟩
      case measure => simp [intOf]
    · have hx := blk_keep HX.out kb
      have x0 := cell_of hx 63 _ rfl
      have x1 := cell_of hx 64 _ rfl
      have x2 := cell_of hx 65 _ rfl
      have x3 := cell_of hx 66 _ rfl
      have x4 := cell_of hx 67 _ rfl
      have x5 := cell_of hx 68 _ rfl
      have x6 := cell_of hx 69 _ rfl
      have x7 := cell_of hx 70 _ rfl
      have x8 := cell_of hx 71 _ rfl
      go_wp2_with fail
      have j2 : Below wr.heap.size wr (wr.alloc (.cells #[.int .i64 1, .int .i64 5, .int .i64 1, .bool false, .bool false, .int .u8 0, .int .u8 0, .int .u8 127, .slice none 0 0] 26)) := (Below.refl _ _).alloc (Nat.le_refl _) _
      generalize wr.alloc _ = wa at j2 ⊢
      refine Calls.mono (check_any ⟨1, 5, 1, false, false, 0, 0, 127, none, 0, []⟩ wa (at0 _ rfl (by decide) wa)) ?_
      rintro e wb ⟨rfl, bb⟩
      have ev : eV (schOK ⟨1, 5, 1, false, false, 0, 0, 127, none, 0, []⟩) = 8 := by decide
      rw [ev]
      have kc := bt kb (bt j2 bb (Nat.le_refl _)) (Nat.le_refl _)
      clear ev hx x0 x1 x2 x3 x4 x5 x6 x7 x8 j2 bb
      go_wp2
      go_roundw
      case rel => exact ⟨8, by omega, by go_num, rfl, kc⟩
      case measure => simp [intOf]

end Go.Proofs.Ytainmmdlbajpnaa.Sc
