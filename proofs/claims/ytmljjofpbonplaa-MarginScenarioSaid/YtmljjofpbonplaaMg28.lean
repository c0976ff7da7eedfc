/-
  The walk of the law MarginJoins.
-/
import Derived.Test.YtmljjofpbonplaaMg27
import Derived.Test.YtmljjofpbonplaaMg22
namespace Go.Proofs.Ytmljjofpbonplaa.Mg
open Go.RowKit Go.Proofs.Ytmljjofpbonplaa Go.Proofs.Ytmljjofpbonplaa.Nm Go.Proofs.Ytmljjofpbonplaa.Ls

set_option maxRecDepth 100000 in
set_option maxHeartbeats 8000000 in
theorem joins_walk {w : World} (a : Option Addr) (c : Nat) (xs : PL) (hp : PLok xs) (hA : AtL w 2 pc a xs) (hxc : xs.length ≤ c) (b : Option Addr) (d : Nat) (ys : PL) (hq : PLok ys) (hB : AtL w 2 pc b ys) (hyd : ys.length ≤ d) :
    Calls Try.prog 6 #[.slice a xs.length c, .slice b ys.length d] w fun e w' => e = .returned (.bool true) ∧ Below w.heap.size w w' := by
  have HAX := Lib.hid hA
  have HAY := Lib.hid hB
  have HOX := Lib.hid hp
  have HOY := Lib.hid hq
  have hxn := hp.n
  have hyn := hq.n
  unfold maxLen at hxn hyn
  clear hp hA hq hB
  by_cases h1 : 40 < xs.length
  · go_enter Try.func6, Try.ntmps6
    go_wp2_with fail
    refine (alive_any _).mono ?_
    rintro e w1 ⟨rfl, c1⟩
    go_wp2
    go_ret
    exact ⟨rfl, c1⟩
  by_cases h2 : 40 < ys.length
  · go_enter Try.func6, Try.ntmps6
    go_wp2_with fail
    refine (alive_any _).mono ?_
    rintro e w1 ⟨rfl, c1⟩
    go_wp2
    go_ret
    exact ⟨rfl, c1⟩
  go_enter Try.func6, Try.ntmps6
  go_wp2_with fail
  refine (alive_any _).mono ?_
  rintro e w1 ⟨rfl, c1⟩
  go_wp2_with (first | (at_builtin; refine wpList_append_LL (w3.alloc (.cells #[] 51)) (P := Try.prog) (α := ByteArray × Int) rfl _ _ _ rfl 51 (.agg #[.string ⟨#[]⟩, .int .i64 0]) 2 24 Try.underlying26 (by kernel_rfl) rfl (by decide) w.heap.size pc pc_len pc_one (.slice (some ⟨w3.heap.size, 0, none⟩) 0 0) [] ys b d rfl rfl (OwnL.empty (blk_new w3 _) b3.size) ((HAY.out.below b3).below ((Below.refl _ _).alloc (Nat.le_refl _) _)) (by simp; unfold maxLen; omega) (by simp; omega) (by have := b3.size; simp; omega) ?_; intro a4 c4 w4 ho4 hg4; have b4 := (b3.alloc b3.size (.cells #[] 51)).grown hg4 (by have := b3.size; simp; omega) (fun k hk => by simp [Value.ownBlock] at hk; have := b3.size; omega); have hr4 := (ho4.sl pc_len).1; have hl4 := (ho4.sl pc_len).2.2; have HR4 := Lib.hid hr4; clear ho4 hr4) | (at_builtin; refine wpList_append_LL (w1.alloc (.cells #[] 51)) (P := Try.prog) (α := ByteArray × Int) rfl _ _ _ rfl 51 (.agg #[.string ⟨#[]⟩, .int .i64 0]) 2 24 Try.underlying26 (by kernel_rfl) rfl (by decide) w.heap.size pc pc_len pc_one (.slice (some ⟨w1.heap.size, 0, none⟩) 0 0) [] xs a c rfl rfl (OwnL.empty (blk_new w1 _) c1.size) ((HAX.out.below c1).below ((Below.refl _ _).alloc (Nat.le_refl _) _)) (by simp; unfold maxLen; omega) (by simp; omega) (by have := c1.size; simp; omega) ?_; intro a3 c3 w3 ho3 hg3; have b3 := (c1.alloc c1.size (.cells #[] 51)).grown hg3 (by have := c1.size; simp; omega) (fun k hk => by simp [Value.ownBlock] at hk; have := c1.size; omega); have hr3 := (ho3.sl pc_len).1; have hl3 := (ho3.sl pc_len).2.2; have HR3 := Lib.hid hr3; clear ho3 hr3))
  have HR5 : Hid (AtL w4 2 pc a3 xs) := HR3.out.below (((Below.refl w3.heap.size w3).alloc (Nat.le_refl _) (.cells #[] 51)).grown hg4 (by simp) (fun k hk => by simp [Value.ownBlock] at hk; omega))
  have hl3' : xs.length ≤ c3 := by simpa using hl3
  have hl4' : ys.length ≤ c4 := by simpa using hl4
  have HR4' := Lib.hid (show AtL w4 2 pc a4 ys from HR4.out)
  clear HR3 HR4 hg3 hg4 hl3 hl4 b3 c1
  have hw4 : w.heap.size ≤ w4.heap.size := b4.size
  refine (join_any a3 a4 c3 c4 xs ys _ hl3' hl4' HOX.out HOY.out HR5.out HR4'.out).mono ?_
  rintro e w5 ⟨v5, rfl, ho5, hb5⟩
  obtain ⟨a5, c5', rfl, hr5, hc5, _⟩ := ho5.read pc_len
  have HO5 := Lib.hid ho5
  have b5 := bt b4 hb5 (Nat.le_refl _)
  clear ho5 hr5
  go_wp2_with fail
  refine (refJoin_any a b c d xs ys _ HOX.out HOY.out (HAX.out.below b5) (HAY.out.below b5)).mono ?_
  rintro e w6 ⟨v6, rfl, ho6, hb6⟩
  obtain ⟨a6, c6', rfl, hr6, hc6, _⟩ := ho6.read pc_len
  have HR6 := Lib.hid hr6
  have HO6 := Lib.hid (HO5.out.below hb6)
  have b6 := bt b5 hb6 (Nat.le_refl _)
  have hjl := jl_len xs ys
  have HJK := Lib.hid (jl_ok HOX.out HOY.out)
  have HBX := Lib.hid (bt hb5 hb6 (Nat.le_refl _))
  clear ho6 hr6 HO5 hb5 hb6 b5 b4
  go_wp2_with fail
  refine (refSame_any a5 a6 c5' c6' (joinL xs ys) (joinL xs ys) _ HJK.out.n (HO6.out.sl pc_len).1 HR6.out).mono ?_
  rintro e w7 ⟨rfl, hb7⟩
  have hd : decide (joinL xs ys = joinL xs ys) = true := decide_eq_true rfl
  rw [hd]
  clear hd
  have b7 := bt b6 hb7 (Nat.le_refl _)
  have HO7 := Lib.hid (HO6.out.below hb7)
  have HBY := Lib.hid (bt HBX.out hb7 (Nat.le_refl _))
  have hej : (joinE xs ys == joinE xs ys) = true := beq_self_eq_true _
  clear HO6 HR6 HBX b6 hb7
  generalize joinL xs ys = JL at *
  go_wp2_with fail
  clear hej
  go_loopw [13] (fun i wr => ∃ (k : Nat) (cs : List Value), k ≤ JL.length ∧ i = .int .i64 k ∧ Hid (wr.ownsRow w4.heap.size 51 2 (.slice a5 JL.length c5') JL.length cs) ∧ Hid (Below w4.heap.size w4 wr) ∧ Below w.heap.size w wr) (fun i _ => JL.length - (intOf i).toNat)
  case atStart => exact ⟨0, JL.flatMap pc, by omega, rfl, HO7.out, HBY.out, b7⟩
  case round =>
    clear HO7 HBY b7
    obtain ⟨k, cs, hk, rfl, HO, HB, b8⟩ := hrel
    by_cases hlt : k < JL.length
    · obtain ⟨gb, gc, hv, hg0, hg1⟩ := HO.out.form (by omega)
      injection hv with e1 e2 e3
      subst e1
      subst e3
      have q1 : wr.cell? ⟨gb, k * 2 + 1, none⟩ = some (cs[k * 2 + 1]'(by have := HO.out.1; omega)) := by
        rw [HO.out.cellAt (k * 2 + 1) (by omega)]
        exact List.getElem?_eq_getElem _
      have f1 := HO.out.frozenAt (k * 2 + 1)
      have HO2 := Lib.hid (HO.out.stored (k * 2 + 1) (.int .i64 (-7))).1
      have HB2 := Lib.hid (HB.out.setCell (p := ⟨gb, k * 2 + 1, none⟩) hg0 (.int .i64 (-7)))
      have HW2 := Lib.hid (b8.setCell (p := ⟨gb, k * 2 + 1, none⟩) (by simp; omega) (.int .i64 (-7)))
      have k0 : (0 : Int) ≤ k := by omega
      have k1 : (k : Int) < JL.length := by omega
      have n1 : 0 + k * 2 = k * 2 := by omega
      clear HB b8
      go_wp2
      go_roundw
      case rel => exact ⟨k + 1, _, by omega, by go_num, HO2, HB2, HW2.out⟩
      case measure => simp [intOf]; omega
    · obtain rfl : k = JL.length := by omega
      go_wp2_with fail
      refine (refSame_any a3 a c3 c xs xs _ HOX.out.n (HR5.out.below HB.out) (HAX.out.below b8)).mono ?_
      rintro e w9 ⟨rfl, hb9⟩
      have hd : decide (xs = xs) = true := decide_eq_true rfl
      rw [hd]
      clear hd
      have b9 := bt b8 hb9 (Nat.le_refl _)
      have HB9 := Lib.hid (bt HB.out hb9 (Nat.le_refl _))
      clear b8 HB hb9 HO
      go_wp2_with fail
      refine (refSame_any a4 b c4 d ys ys _ HOY.out.n (HR4'.out.below HB9.out) (HAY.out.below b9)).mono ?_
      rintro e w10 ⟨rfl, hb10⟩
      have hd : decide (ys = ys) = true := decide_eq_true rfl
      rw [hd]
      clear hd
      have b10 := bt b9 hb10 (Nat.le_refl _)
      go_wp2
      go_ret
      exact ⟨rfl, b10⟩
end Go.Proofs.Ytmljjofpbonplaa.Mg
