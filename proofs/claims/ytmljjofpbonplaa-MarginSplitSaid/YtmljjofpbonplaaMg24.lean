/-
  The walk of the law MarginSplit.
-/
import Derived.Test.YtmljjofpbonplaaMgJ3
import Derived.Test.YtmljjofpbonplaaMg22
namespace Go.Proofs.Ytmljjofpbonplaa.Mg
open Go.RowKit Go.Proofs.Ytmljjofpbonplaa Go.Proofs.Ytmljjofpbonplaa.Nm Go.Proofs.Ytmljjofpbonplaa.Ls

theorem one_at {w : World} {b off : Nat} {xs : PL} (h : AtL w 2 pc (some ⟨b, off, none⟩) xs) (k : Nat) (hk : k < xs.length) : AtL w 2 pc (some ⟨b, off + k * 2, none⟩) [xs[k]] := by
  have := h.cut (n := k) (by omega)
  intro i x hx
  cases i with
  | zero =>
    obtain rfl : xs[k] = x := by simpa using hx
    exact this 0 _ (by rw [List.getElem?_drop]; exact getElem?_lt hk)
  | succ i => simp at hx
theorem one_ok {xs : PL} (h : PLok xs) (k : Nat) (hk : k < xs.length) : PLok [xs[k]] :=
  ⟨by show 1 ≤ maxLen; unfold maxLen; omega, fun z hz => by rw [List.mem_singleton.1 hz]; exact h.s _ (List.getElem_mem hk), fun z hz => by rw [List.mem_singleton.1 hz]; exact h.q _ (List.getElem_mem hk)⟩
theorem drop_ok {xs : PL} (h : PLok xs) (k : Nat) : PLok (xs.drop k) :=
  ⟨by have := h.n; simp; omega, fun z hz => h.s _ (List.mem_of_mem_drop hz), fun z hz => h.q _ (List.mem_of_mem_drop hz)⟩

set_option maxRecDepth 100000 in
set_option maxHeartbeats 8000000 in
theorem split_walk (g : Gr) {w : World} (hG : GrAt w g) (a : Option Addr) (c : Nat) (xs : PL) (hp : PLok xs) (hA : AtL w 2 pc a xs) (hxc : xs.length ≤ c) :
    Calls Try.prog 10 #[.agg #[.slice g.wa g.nw g.wc, .slice g.pa g.np g.pc], .slice a xs.length c] w fun e w' => e = .returned (.bool true) ∧ Below w.heap.size w w' := by
  have hx0 := blk_new w (.cells #[.slice g.wa g.nw g.wc, .slice g.pa g.np g.pc] 25)
  have hbo : Below w.heap.size w (w.alloc (.cells #[.slice g.wa g.nw g.wc, .slice g.pa g.np g.pc] 25)) := (Below.refl _ _).alloc (Nat.le_refl _) _
  have hL1 := pfl_at (c := c) hp hA
  have HGR := Lib.hid (fun wo h => great_any g a xs.length c wo (hG.below h) hp.n)
  have HM1 := Lib.hid (fun wo h => margin_any g (pfl a c xs) wo (hG.below h) (hL1.below h))
  have HGW := Lib.hid hG
  have HAT := Lib.hid hA
  have HOK := Lib.hid hp
  have hxn := hp.n
  unfold maxLen at hxn
  clear hG hp hA hL1
  go_enter Try.func10, Try.ntmps10
  go_wp2_with fail
  generalize w.alloc _ = wo at hx0 hbo ⊢
  refine (alive_any _).mono ?_
  rintro e w1 ⟨rfl, hb1⟩
  have c1 := bt hbo hb1 (Nat.le_refl _)
  have HX1 := Lib.hid (blk_keep hx0 hb1)
  clear hx0 hbo hb1
  have x0 : w1.cell? ⟨w.heap.size, 0, none⟩ = some (.slice g.wa g.nw g.wc) := cell_of HX1.out 0 _ rfl
  have x1 : w1.cell? ⟨w.heap.size, 1, none⟩ = some (.slice g.pa g.np g.pc) := cell_of HX1.out 1 _ rfl
  go_wp2_with fail
  refine (HGR.out _ c1).mono ?_
  rintro e w2 ⟨rfl, hb2⟩
  have c2 := bt c1 hb2 (Nat.le_refl _)
  have HX2 := Lib.hid (blk_keep HX1.out hb2)
  clear HX1 c1 x0 x1 hb2
  have x0 : w2.cell? ⟨w.heap.size, 0, none⟩ = some (.slice g.wa g.nw g.wc) := cell_of HX2.out 0 _ rfl
  have x1 : w2.cell? ⟨w.heap.size, 1, none⟩ = some (.slice g.pa g.np g.pc) := cell_of HX2.out 1 _ rfl
  rcases hb (greatB g || decide (40 < xs.length)) with hg | hg
  · rw [hg]
    clear hg
    go_wp2
    go_ret
    exact ⟨rfl, c2⟩
  rw [hg]
  clear hg
  go_wp2_with fail
  refine (HM1.out _ c2).mono ?_
  rintro e w3 ⟨rfl, hb3⟩
  have c3 := bt c2 hb3 (Nat.le_refl _)
  have HX3 := Lib.hid (blk_keep HX2.out hb3)
  clear HX2 c2 x0 x1 hb3
  have x0 : w3.cell? ⟨w.heap.size, 0, none⟩ = some (.slice g.wa g.nw g.wc) := cell_of HX3.out 0 _ rfl
  have x1 : w3.cell? ⟨w.heap.size, 1, none⟩ = some (.slice g.pa g.np g.pc) := cell_of HX3.out 1 _ rfl
  rcases hb (fit g (pfl a c xs)) with hf | hf
  · have HF := Lib.hid hf
    have hn32 := ((fit_L g a c xs).1 hf).2.1.n
    have HGOOD := Lib.hid ((fit_L g a c xs).1 hf).2.1
    have hM0 : margV g (pfl none 0 []) = 0 := (nil_marg hf).2
    have HM0 := Lib.hid hM0
    have hMB := margV_bd g (pfl a c xs)
    have HMA := Lib.hid (show margV g (pfl a c xs) = margV g (pfl none 0 (xs.drop 0)) from rfl)
    rw [hf]
    have hev : errV true = 0 := rfl
    rw [hev]
    clear hev
    clear hf hM0
    generalize margV g (pfl a c xs) = MV at *
    go_wp2_with fail
    go_loopw [8, 9, 10, 11, 12, 13, 14] (fun o t i _ _ _ _ wr => ∃ (k : Nat) (S : Int) (b : Option Addr) (d : Nat), k ≤ xs.length ∧ i = .int .i64 ((k : Int) - 1) ∧ t = .int .i64 S ∧ o = .slice b (xs.drop k).length d ∧ (xs.drop k).length ≤ d ∧ Hid (AtL wr 2 pc b (xs.drop k)) ∧ Hid (margV g (pfl none 0 (xs.drop k)) ≤ S) ∧ 0 ≤ S ∧ S ≤ 1125899906842624 * (xs.length - k) ∧ Below w.heap.size w wr ∧ Hid (wr.heap[w.heap.size]? = some (.cells #[.slice g.wa g.nw g.wc, .slice g.pa g.np g.pc] 25 (0, 0)))) (fun _ _ i _ _ _ _ _ => (intOf i + 1).toNat)
    case atStart => exact ⟨xs.length, 0, none, 0, Nat.le_refl _, rfl, rfl, by simp, by simp, by rw [List.drop_length]; exact AtL.nil _ _ _ _, by rw [List.drop_length]; exact Int.le_of_eq HM0.out, by omega, by omega, c3, HX3⟩
    case round =>
      clear c3 HX3 x0 x1
      obtain ⟨k, S, b, d, hk, rfl, rfl, rfl, hd, HR, HS, hS0, hS1, c4, HX4⟩ := hrel
      have x0 : wr.cell? ⟨w.heap.size, 0, none⟩ = some (.slice g.wa g.nw g.wc) := cell_of HX4.out 0 _ rfl
      have x1 : wr.cell? ⟨w.heap.size, 1, none⟩ = some (.slice g.pa g.np g.pc) := cell_of HX4.out 1 _ rfl
      cases k with
      | succ j =>
        have e0 : (((j + 1 : Nat) : Int) - 1) = (j : Int) := by omega
        rw [e0]
        clear e0
        have hlt : j < xs.length := by omega
        obtain ⟨bx, ox, rfl, hcx⟩ := HAT.out j _ (getElem?_lt hlt)
        have hbz : bx < w.heap.size := World.block_lt_of_cell? _ _ (hcx 0 _ rfl)
        clear hcx
        have k0 : (0 : Int) ≤ j := by omega
        have k1 : (j : Int) < xs.length := by omega
        have k2 : (j : Int) + 1 ≤ c := by omega
        have k3 : ¬ c = j := by omega
        have k4 : (0 : Int) ≤ (j : Int) + 1 := by omega
        have k5 : (j : Int) ≤ (j : Int) + 1 := by omega
        have n1 : IntKind.i64.wrap ((j : Int) + 1) = (j : Int) + 1 := IntWalk.i64_in _ (by omega)
        have n2 : ((j : Int) + 1).toNat = j + 1 := by omega
        go_wp2_with fail
        go_region_held3 (fun w' => w'.cell? ⟨w.heap.size, 0, none⟩ = some (.slice g.wa g.nw g.wc) ∧ w'.cell? ⟨w.heap.size, 1, none⟩ = some (.slice g.pa g.np g.pc))
          (first | go_keep | (go_split_ands; refine ⟨?_, ?_⟩ <;> refine keep (w := wr.drew) ?_ hb5 <;> go_keep))
          ((go_at_call 22; refine (margin_any g (pfl (some ⟨bx, ox + j * 2, none⟩) (c - j) [xs[j]]) _ (HGW.out.below c4.drew) (pfl_at (one_ok HOK.out j hlt) ((one_at HAT.out j hlt).below c4.drew))).mono ?_; rintro e w5 ⟨rfl, hb5⟩))
        have c5 := bt c4.drew hb5 (Nat.le_refl _)
        have HX5 := Lib.hid (blk_keep (w := wr.drew) HX4.out hb5)
        have HR5 := Lib.hid (AtL.below (w := wr.drew) HR.out hb5)
        clear HR HX4 c4 hb5 x0 x1
        have HF1 := Lib.hid (one_fit (b := some ⟨bx, ox + j * 2, none⟩) (d := c - j) HF.out j hlt)
        rw [HF1.out]
        have hev : errV true = 0 := rfl
        rw [hev]
        clear hev
        have HJ := Lib.hid (drop_join HGOOD.out j hlt)
        have HDM := Lib.hid (drop_marg HF.out j hlt)
        have hm1 := margV_bd g (pfl none 0 [xs[j]])
        go_wp2_with fail
        rw [show xs.length - (j + 1) = (xs.drop (j + 1)).length from List.length_drop.symm]
        refine (join_any b (some ⟨bx, ox + j * 2, none⟩) d (c - j) (xs.drop (j + 1)) [xs[j]] _ hd (by show 1 ≤ c - j; omega) (drop_ok HOK.out _) (one_ok HOK.out j hlt) HR5.out ((one_at HAT.out j hlt).below c5)).mono ?_
        intro e w6 hj6
        obtain ⟨aj, cj, rfl, hcj, hr6, hb6⟩ := hj6.use
        clear hj6
        rw [HJ.out.2] at hcj hr6
        rw [HJ.out.1, HJ.out.2]
        have c6 := bt c5 hb6 (Nat.le_refl _)
        have HX6 := Lib.hid (blk_keep HX5.out hb6)
        have HR6 := Lib.hid hr6
        clear c5 HX5 HR5 hb6 hr6 n1 n2
        have e1 : margV g (pfl (some ⟨bx, ox + j * 2, none⟩) (c - j) [xs[j]]) = margV g (pfl none 0 [xs[j]]) := rfl
        rw [e1]
        clear e1
        generalize margV g (pfl none 0 [xs[j]]) = MO at *
        have n1 : IntKind.i64.wrap (S + MO) = S + MO := IntWalk.i64_in _ (by omega)
        have HS2 : Hid (margV g (pfl none 0 (xs.drop j)) ≤ S + MO) := by have h1 := HS.out; have h2 := HDM.out; exact (show _ ≤ _ by omega)
        go_wp2
        go_roundw
        case rel => exact ⟨j, S + MO, aj, cj, by omega, by go_num, rfl, by rw [List.length_drop], hcj, HR6, HS2, by omega, by omega, c6, HX6⟩
        case measure => simp [intOf]
      | zero =>
        have e0 : (((0 : Nat) : Int) - 1) = -1 := rfl
        rw [e0]
        clear e0
        have hle : MV ≤ S := by rw [HMA.out]; exact HS.out
        have HR7 := Lib.hid (show AtL wr 2 pc b xs from HR.out)
        have e1 : (xs.drop 0).length = xs.length := rfl
        rw [e1]
        clear e1 HR
        go_wp2_with fail
        refine (refSame_any b a d c xs xs _ HOK.out.n HR7.out (HAT.out.below c4)).mono ?_
        rintro e w8 ⟨rfl, hb8⟩
        have hdc : decide (xs = xs) = true := decide_eq_true rfl
        rw [hdc]
        clear hdc
        have c8 := bt c4 hb8 (Nat.le_refl _)
        go_wp2
        go_ret
        exact ⟨rfl, c8⟩
  · rw [hf]
    have hev : errV false = 8 := rfl
    rw [hev]
    clear hev
    go_wp2
    go_ret
    exact ⟨rfl, c3⟩
end Go.Proofs.Ytmljjofpbonplaa.Mg
