/-
  Compress: the walk of slices.DeleteFunc with the test 'amount 0'.
-/
import Derived.Test.YtpphiohppgphnaaCv2
namespace Go.Proofs.Ytpphiohppgphnaa.Cs
open Go.RowKit Go.Proofs.Ytpphiohppgphnaa Go.Proofs.Ytpphiohppgphnaa.Ls Go.Proofs.Ytpphiohppgphnaa.Kb Go.Proofs.Ytpphiohppgphnaa.Cz
open Go.Proofs.Ytpphiohppgphnaa.Nm hiding ret_bool ret_int hb'

set_option maxRecDepth 100000 in
set_option maxHeartbeats 4000000 in
theorem delete_any (g cap B : Nat) (xs : List Tr) (w : World) (hn : xs.length ≤ 1000) (hO : OwnL w B 31 4 trc (.slice (some ⟨g, 0, none⟩) xs.length cap) xs) :
    Calls Try.prog 29 #[.slice (some ⟨g, 0, none⟩) xs.length cap, .func (.func 30) #[] #[]] w fun e w' => e = .returned (.slice (some ⟨g, 0, none⟩) (nzl xs).length cap) ∧ OwnL w' B 31 4 trc (.slice (some ⟨g, 0, none⟩) (nzl xs).length cap) (nzl xs) ∧ w.grownBy w' (some g) := by
  have HIX := Lib.hid (index_any (some ⟨g, 0, none⟩) cap xs w hn (hO.sl trc_len).1)
  have HO := Lib.hid hO
  have hlc := (hO.sl trc_len).2.2
  have hB : B ≤ g ∧ g < w.heap.size := hO.lt g rfl
  clear hO
  go_enter Try.func29, Try.ntmps29
  go_wp2_with fail
  refine HIX.out.mono ?_
  rintro e w1 ⟨k, rfl, hk, hb1⟩
  have HB1 := Lib.hid hb1
  have HO1 := Lib.hid (HO.out.below hb1)
  clear hb1 HIX
  rcases hk with ⟨rfl, hno⟩ | ⟨I, rfl, hI, hz, hno⟩
  · have e : nzl xs = xs := by
      have := nzl_none xs xs.length hno (Nat.le_refl _)
      rwa [List.take_length] at this
    have HE := Lib.hid e
    clear hno e
    go_wp2_with fail
    go_ret
    rw [HE.out]
    exact ⟨rfl, HO1.out, ⟨HB1.out.os, HB1.out.tape, HB1.out.output, HB1.out.size, fun k hk _ => HB1.out.block k hk⟩⟩
  · have HST : Hid (DlI w g cap B xs I (I + 1) xs w1) := ⟨by omega, hI, rfl, by rw [nzl_succ xs I hI, if_pos hz, nzl_none xs I hno (by omega)], rfl, HO1.out, ⟨HB1.out.os, HB1.out.tape, HB1.out.output, HB1.out.size, fun k hk _ => HB1.out.block k hk⟩⟩
    have hi1 : ((I : Int) == -1) = false := by rw [beq_eq_false_iff_ne]; omega
    have hib : (I : Int) + 1 ≤ 1000 := by omega
    have hi0 : (0 : Int) ≤ (I : Int) := by omega
    clear hz hno HB1 HO1
    go_wp2_with fail
    clear hi1 hib hi0
    go_loopw [5, 6, 7] (fun i j _ wr => ∃ (I J : Nat) (zs : List Tr), i = .int .i64 I ∧ j = .int .i64 J ∧ Hid (DlI w g cap B xs I J zs wr)) (fun _ j _ _ => xs.length - (intOf j).toNat)
    case atStart => exact ⟨I, I + 1, xs, rfl, by go_num, HST⟩
    case round =>
      clear HST
      obtain ⟨I, J, zs, rfl, rfl, HD⟩ := hrel
      rcases Nat.lt_or_ge J xs.length with hjl | hge
      · have hij := HD.out.ij
        have hki : (J : Int) < xs.length := by omega
        have hk0 : (0 : Int) ≤ (J : Int) := by omega
        have hii : (I : Int) < xs.length := by omega
        have hi0 : (0 : Int) ≤ (I : Int) := by omega
        have hlz := HD.out.len
        have hsl := (HD.out.own.sl trc_len).1
        obtain ⟨q0, q1, q2, q3⟩ := at_tr' hsl J (by omega)
        rw [HD.out.at_ hjl] at q0 q1 q2 q3
        simp only [Nat.zero_add] at q0 q1 q2 q3
        have hal : Below wr.heap.size wr (wr.alloc (.cells #[.string (gt xs J).fr, .string (gt xs J).to_, .string (gt xs J).con, .int .i64 (gt xs J).amt] 31)) := (Below.refl _ _).alloc (Nat.le_refl _) _
        have HZ := Lib.hid (zero_any (gt xs J) (wr.alloc (.cells #[.string (gt xs J).fr, .string (gt xs J).to_, .string (gt xs J).con, .int .i64 (gt xs J).amt] 31)))
        have HXB := Lib.hid (blk_new wr (.cells #[.string (gt xs J).fr, .string (gt xs J).to_, .string (gt xs J).con, .int .i64 (gt xs J).amt] 31))
        have HAL := Lib.hid hal
        clear hal hsl
        go_wp2_with fail
        refine HZ.out.mono ?_
        rintro e w2 ⟨rfl, hb2⟩
        have hb02 := bt HAL.out hb2 (Nat.le_refl _)
        have HB02 := Lib.hid hb02
        have HX2 := Lib.hid (blk_keep HXB.out hb2)
        have z0 := cell_of HX2.out 0 _ rfl
        have z1 := cell_of HX2.out 1 _ rfl
        have z2 := cell_of HX2.out 2 _ rfl
        have z3 := cell_of HX2.out 3 _ rfl
        have hOz := HD.out.own.below hb02
        rw [← hlz] at hOz
        have hth := fun (j : Nat) (hj : j < 4) => hOz.there (I * 4 + j) (by have : (I + 1) * 4 ≤ cap * 4 := Nat.mul_le_mul_right _ (by omega); omega)
        have t0 := (hth 0 (by omega)).2
        have t1 := (hth 1 (by omega)).2
        have t2 := (hth 2 (by omega)).2
        have t3 := (hth 3 (by omega)).2
        obtain ⟨p0, p1, p2, p3⟩ := at_tr' (hOz.sl trc_len).1 I (by omega)
        simp only [Nat.zero_add, Nat.add_zero] at p0 p1 p2 p3 t0
        have hgw : g < wr.heap.size := Nat.lt_of_lt_of_le hB.2 HD.out.grown.size
        obtain ⟨b, hb⟩ : ∃ b : Bool, ((gt xs J).amt == 0) = b := ⟨_, rfl⟩
        rw [hb]
        have HBB := Lib.hid hb
        clear hb hb2 hb02 hOz hth HZ HXB HAL q0 q1 q2 q3
        cases b
        · have HK := Lib.hid (HD.out.keep_ hjl (fun h => by have := HBB.out; rw [h] at this; cases this) HB02.out (I * 4) rfl [.string (gt xs J).fr, .string (gt xs J).to_, .string (gt xs J).con, .int .i64 (gt xs J).amt] rfl)
          go_wp2_with fail
          go_roundw
          case rel => exact ⟨I + 1, J + 1, _, by go_num, by go_num, HK.out⟩
          case measure => simp [intOf]; omega
        · go_wp2_with fail
          go_roundw
          case rel => exact ⟨I, J + 1, zs, rfl, by go_num, HD.out.skip hjl (beq_iff_eq.1 HBB.out) HB02.out⟩
          case measure => simp [intOf]; omega
      · have hJ : J = xs.length := Nat.le_antisymm HD.out.jn hge
        rw [hJ] at HD
        obtain ⟨hIe, W, hW1, hW2, hW3, hW4⟩ := HD.out.fin
        have HW := Lib.hid (And.intro hIe (And.intro hW1 hW2))
        have hin : (I : Int) ≤ xs.length := by have := HD.out.ij; omega
        have hin2 : I ≤ xs.length := HD.out.ij
        have hicap : I ≤ cap := by omega
        clear hIe hW1 hW2
        by_cases hci : cap = I
        · have hclr := hW4 hci
          clear hW3 hW4
          go_wp2_with fail
          go_ret
          exact ⟨by rw [← HW.out.1, hci]; rfl, HW.out.2⟩
        · have hclr := hW3 hci
          clear hW3 hW4
          go_wp2_with fail
          go_ret
          exact ⟨by rw [← HW.out.1]; rfl, HW.out.2⟩
end Go.Proofs.Ytpphiohppgphnaa.Cs
