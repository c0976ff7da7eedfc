/-
  Margin's reference: the walks of Check, counted, loss.
-/
import Derived.Test.YtmljjofpbonplaaMg13
namespace Go.Proofs.Ytmljjofpbonplaa.Mg
open Go.RowKit Go.Proofs.Ytmljjofpbonplaa Go.Proofs.Ytmljjofpbonplaa.Nm

theorem prodV_yes {P : Nat → PD} {np : Nat} {t : ByteArray} (h : hasB P np t = true) : prodV P np t = .agg #[.string t, .slice (P (idx P np t)).a (P (idx P np t)).len (P (idx P np t)).cap, .int .i64 (P (idx P np t)).fee] := by
  unfold prodV
  rw [if_pos h]
theorem prodV_no {P : Nat → PD} {np : Nat} {t : ByteArray} (h : hasB P np t = false) : prodV P np t = .agg #[.string ⟨#[]⟩, .slice none 0 0, .int .i64 0] := by
  unfold prodV
  rw [h]
  rfl

/-- the world behind a region that makes a box: old blocks are as they were, one old block and the box are known -/
def Fin (w wn : World) (G : Nat) (x : Obj) (cs : Array Value) (t : TypeId) : Prop := Below w.heap.size w wn ∧ wn.heap[w.heap.size]? = some x ∧ wn.heap[G]? = some (.cells cs t (0, 0)) ∧ w.heap.size < G
theorem fin_new {w wr w3 : World} {x : Obj} (hbw : Below w.heap.size w wr) (hx : wr.heap[w.heap.size]? = some x) (hb3 : Below wr.drew.heap.size wr.drew w3) (cs : Array Value) (t : TypeId) :
    Fin w (w3.alloc (.cells cs t (0, 0))) w3.heap.size x cs t := by
  have c3 : Below w.heap.size w w3 := bt hbw.drew hb3 (Nat.le_refl _)
  have h1 := blk_lt hx
  have h2 : wr.heap.size ≤ w3.heap.size := hb3.size
  exact ⟨c3.alloc c3.size _, blk_past _ _ (blk_keep (w := wr.drew) hx hb3), blk_new _ _, by omega⟩
theorem fin_set {w wr w3 : World} {x : Obj} (hbw : Below w.heap.size w wr) (hx : wr.heap[w.heap.size]? = some x) (t : TypeId) {p q r : Value}
    (hb3 : Below (wr.drew.alloc (.cells #[p, q, r] t (0, 0))).heap.size (wr.drew.alloc (.cells #[p, q, r] t (0, 0))) w3) (a b c : Value) :
    Fin w (((w3.setCell ⟨wr.heap.size, 0, none⟩ a).setCell ⟨wr.heap.size, 1, none⟩ b).setCell ⟨wr.heap.size, 2, none⟩ c) wr.heap.size x #[a, b, c] t := by
  have c2 : Below w.heap.size w (wr.drew.alloc (.cells #[p, q, r] t (0, 0))) := hbw.drew.alloc hbw.size _
  have c3 : Below w.heap.size w w3 := bt c2 hb3 (Nat.le_refl _)
  have h1 := blk_lt hx
  have hx2 : (wr.drew.alloc (.cells #[p, q, r] t (0, 0))).heap[w.heap.size]? = some x := blk_past _ _ hx
  have hz : w3.heap[wr.heap.size]? = some (.cells #[p, q, r] t (0, 0)) := blk_keep (blk_new wr.drew _) hb3
  have hne : wr.heap.size ≠ w.heap.size := by omega
  refine ⟨((c3.setCell (by simp; omega) _).setCell (by simp; omega) _).setCell (by simp; omega) _, ?_, set3 hz a b c, by omega⟩
  exact set_keep (set_keep (set_keep (blk_keep hx2 hb3) hne _) hne _) hne _
theorem refP_yes (g : Gr) (t : ByteArray) (w : World) (hn : g.np ≤ 32) (hA : ProdsAt w g.pa g.np g.P) (hS : Sorted g.np (fun i => (g.P i).nm)) (h : hasB g.P g.np t = true) :
    Calls Try.prog 41 #[.agg #[.slice g.wa g.nw g.wc, .slice g.pa g.np g.pc], .string t] w fun e w' => e = .returned (.tuple #[.agg #[.string t, .slice (g.P (idx g.P g.np t)).a (g.P (idx g.P g.np t)).len (g.P (idx g.P g.np t)).cap, .int .i64 (g.P (idx g.P g.np t)).fee], .bool true]) ∧ Below w.heap.size w w' :=
  (refProduct_any g.wa g.pa g.nw g.wc g.np g.pc g.P t w (by omega) hA hS).mono fun _ _ hh => ⟨by rw [hh.1, h, prodV_yes h], hh.2⟩
theorem refP_no (g : Gr) (t : ByteArray) (w : World) (hn : g.np ≤ 32) (hA : ProdsAt w g.pa g.np g.P) (hS : Sorted g.np (fun i => (g.P i).nm)) (h : hasB g.P g.np t = false) :
    Calls Try.prog 41 #[.agg #[.slice g.wa g.nw g.wc, .slice g.pa g.np g.pc], .string t] w fun e w' => e = .returned (.tuple #[.agg #[.string ⟨#[]⟩, .slice none 0 0, .int .i64 0], .bool false]) ∧ Below w.heap.size w w' :=
  (refProduct_any g.wa g.pa g.nw g.wc g.np g.pc g.P t w (by omega) hA hS).mono fun _ _ hh => ⟨by rw [hh.1, h, prodV_no h], hh.2⟩

set_option maxRecDepth 100000 in
set_option maxHeartbeats 4000000 in
theorem refCheck_any (g : Gr) (l : Pf) (w : World) (hG : GrAt w g) (hL : PfAt w l) :
    Calls Try.prog 27 #[.agg #[.slice g.wa g.nw g.wc, .slice g.pa g.np g.pc], .slice l.a l.n l.c] w fun e w' => e = .returned (.int .i64 (errV (fit g l))) ∧ Below w.heap.size w w' := by
  have hblk := blk_new w (.cells #[.slice g.wa g.nw g.wc, .slice g.pa g.np g.pc] 25)
  have hbo : Below w.heap.size w (w.alloc (.cells #[.slice g.wa g.nw g.wc, .slice g.pa g.np g.pc] 25)) := (Below.refl _ _).alloc (Nat.le_refl _) _
  have HG := Lib.hid hG
  have HL := Lib.hid hL
  obtain ⟨A, hla⟩ : ∃ A, A = l.a := ⟨_, rfl⟩
  have HLA := Lib.hid (show PosAt w A l.n l.T l.Q by rw [hla]; exact hL.at')
  have HCG := Lib.hid (fun wo h => refCheckGrid_any g.wa g.pa g.nw g.wc g.np g.pc g.W g.P wo hG.nw hG.np hG.pd (hG.ws.below h) (hG.ps.below h))
  have HCP := Lib.hid (fun wo h => refPortfolio_any A l.n l.c l.T l.Q wo (by have := hL.n; unfold maxLen at this; omega) hL.t (HLA.out.below h))
  have HB := Lib.hid hbo
  have HX0 := Lib.hid hblk
  rw [← hla]
  clear hG hL hla hbo hblk
  rcases hb (gridB g.W g.nw g.P g.np) with hg | hg
  · have HO := Lib.hid (gridB_ok hg)
    have HGB := Lib.hid hg
    clear hg
    rcases hb (pfB l.T l.Q l.n) with hp | hp
    · have HPB := Lib.hid hp
      have HPO := Lib.hid (pfB_ok hp)
      clear hp
      go_enter Try.func27, Try.ntmps27
      go_wp2_with fail
      refine (HCG.out _ HB.out).mono ?_
      rintro e w1 ⟨rfl, hb1⟩
      rw [HGB.out]
      have c1 := bt HB.out hb1 (by simp)
      have HX1 := Lib.hid (blk_keep HX0.out hb1)
      have hev : errV true = 0 := rfl
      rw [hev]
      clear hev HX0 HB hb1
      go_wp2_with fail
      refine (HCP.out _ c1).mono ?_
      rintro e w2 ⟨rfl, hb2⟩
      rw [HPB.out]
      have c2 := bt c1 hb2 (Nat.le_refl _)
      have HX2 := Lib.hid (blk_keep HX1.out hb2)
      clear HX1 c1 hb2
      have hn32 : l.n ≤ 32 := HPO.out.n32
      go_wp2_with fail
      go_loopw [5, 6, 7] (fun c _ _ wr => ∃ k : Nat, k ≤ l.n ∧ c = .int .i64 k ∧ Hid (∀ i, i < k → hasB g.P g.np (l.T i) = true) ∧ Below w.heap.size w wr ∧ Hid (wr.heap[w.heap.size]? = some (.cells #[.slice g.wa g.nw g.wc, .slice g.pa g.np g.pc] 25 (0, 0)))) (fun c _ _ _ => l.n - (intOf c).toNat)
      case atStart => exact ⟨0, by omega, rfl, Lib.hid (fun i hi => by omega), c2, HX2⟩
      case round =>
        clear HX2 c2
        obtain ⟨k, hk, rfl, HR, hbw, HX⟩ := hrel
        have x0 : wr.cell? ⟨w.heap.size, 0, none⟩ = some (.slice g.wa g.nw g.wc) := cell_of HX.out 0 _ rfl
        have x1 : wr.cell? ⟨w.heap.size, 1, none⟩ = some (.slice g.pa g.np g.pc) := cell_of HX.out 1 _ rfl
        by_cases hlt : k < l.n
        · obtain ⟨b, off, rfl, q0, q1⟩ := (HLA.out.below hbw) k hlt
          have hws : w.heap.size < wr.heap.size := World.block_lt_of_cell? _ _ x1
          have hbs : b < wr.heap.size := World.block_lt_of_cell? _ _ q0
          have n1 : wr.heap.size ≠ w.heap.size := by omega
          have n2 : wr.heap.size ≠ b := by omega
          rcases hb (hasB g.P g.np (l.T k)) with hh | hh
          · have HR2 : Hid (∀ i, i < k + 1 → hasB g.P g.np (l.T i) = true) := fun i hi => by
              rcases Nat.lt_or_ge i k with g | g
              · exact HR.out i g
              · obtain rfl : i = k := by omega
                exact hh
            have HH := Lib.hid hh
            clear hh
            go_wp2_with fail
            go_region_held3 (fun w' => w'.cell? ⟨w.heap.size, 0, none⟩ = some (.slice g.wa g.nw g.wc) ∧ w'.cell? ⟨w.heap.size, 1, none⟩ = some (.slice g.pa g.np g.pc) ∧ w'.cell? ⟨b, off + k * 2, none⟩ = some (.string (l.T k)))
              (first | (go_split_ands; refine ⟨?_, ?_, ?_⟩ <;> go_keep; done) | (go_split_ands; refine ⟨?_, ?_, ?_⟩ <;> refine keep ?_ hb3 <;> go_keep; done))
              (first
                | (go_at_call 41; refine (refP_yes g (l.T k) _ HO.out.p32 (HG.out.ps.below hbw.drew) HO.out.sorted HH.out).mono ?_; rintro e w3 ⟨rfl, hb3⟩; have e0 : wr.heap.size ≤ w3.heap.size := hb3.size; have e1 : w3.heap.size ≠ w.heap.size := (by omega); have e2 : w3.heap.size ≠ b := (by omega); have y0 : w3.cell? ⟨w.heap.size, 0, none⟩ = some (.slice g.wa g.nw g.wc) := keep (w := wr.drew) x0 hb3; have y1 : w3.cell? ⟨w.heap.size, 1, none⟩ = some (.slice g.pa g.np g.pc) := keep (w := wr.drew) x1 hb3; have y2 : w3.cell? ⟨b, off + k * 2, none⟩ = some (.string (l.T k)) := keep (w := wr.drew) q0 hb3; have HFN := Lib.hid (fin_new hbw HX.out hb3 #[.string (l.T k), .slice (g.P (idx g.P g.np (l.T k))).a (g.P (idx g.P g.np (l.T k))).len (g.P (idx g.P g.np (l.T k))).cap, .int .i64 (g.P (idx g.P g.np (l.T k))).fee] 54))
                | (go_at_call 41; refine (refP_yes g (l.T k) _ HO.out.p32 (HG.out.ps.below (hbw.drew.alloc hbw.size (.cells #[.string ⟨#[]⟩, .slice none 0 0, .int .i64 0] 54))) HO.out.sorted HH.out).mono ?_; rintro e w3 ⟨rfl, hb3⟩; have z0 := blk_keep (blk_new wr.drew (.cells #[.string ⟨#[]⟩, .slice none 0 0, .int .i64 0] 54)) hb3; have z1 : w3.cell? ⟨wr.heap.size, 0, none⟩ = some (.string ⟨#[]⟩) := cell_of z0 0 _ rfl; have z2 : w3.cell? ⟨wr.heap.size, 1, none⟩ = some (.slice none 0 0) := cell_of z0 1 _ rfl; have z3 : w3.cell? ⟨wr.heap.size, 2, none⟩ = some (.int .i64 0) := cell_of z0 2 _ rfl; have z4 : w3.frozen? ⟨wr.heap.size, 0, none⟩ = false := frozen_of z0 0; have z5 : w3.frozen? ⟨wr.heap.size, 1, none⟩ = false := frozen_of z0 1; have z6 : w3.frozen? ⟨wr.heap.size, 2, none⟩ = false := frozen_of z0 2; have HFN := Lib.hid (fin_set hbw HX.out 54 hb3 (.string (l.T k)) (.slice (g.P (idx g.P g.np (l.T k))).a (g.P (idx g.P g.np (l.T k))).len (g.P (idx g.P g.np (l.T k))).cap) (.int .i64 (g.P (idx g.P g.np (l.T k))).fee))))
            all_goals
              go_wp2
              go_roundw
              case rel => exact ⟨k + 1, by omega, by go_num, HR2, HFN.out.1, Lib.hid HFN.out.2.1⟩
              case measure => simp [intOf]; omega
          · have HF : Hid (fit g l = false) := by
              have : ((List.range l.n).all fun i => hasB g.P g.np (l.T i)) = false := by
                rw [List.all_eq_false]
                exact ⟨k, List.mem_range.2 hlt, by simp [hh]⟩
              unfold Hid fit fitB
              rw [this, Bool.and_false, Bool.and_false]
            have HH := Lib.hid hh
            clear hh
            go_wp2_with fail
            go_region_held3 (fun w' => w'.cell? ⟨w.heap.size, 0, none⟩ = some (.slice g.wa g.nw g.wc) ∧ w'.cell? ⟨w.heap.size, 1, none⟩ = some (.slice g.pa g.np g.pc) ∧ w'.cell? ⟨b, off + k * 2, none⟩ = some (.string (l.T k)))
              (first | (go_split_ands; refine ⟨?_, ?_, ?_⟩ <;> go_keep; done) | (go_split_ands; refine ⟨?_, ?_, ?_⟩ <;> refine keep ?_ hb3 <;> go_keep; done))
              (first
                | (go_at_call 41; refine (refP_no g (l.T k) _ HO.out.p32 (HG.out.ps.below hbw.drew) HO.out.sorted HH.out).mono ?_; rintro e w3 ⟨rfl, hb3⟩; have e0 : wr.heap.size ≤ w3.heap.size := hb3.size; have e1 : w3.heap.size ≠ w.heap.size := (by omega); have e2 : w3.heap.size ≠ b := (by omega); have y0 : w3.cell? ⟨w.heap.size, 0, none⟩ = some (.slice g.wa g.nw g.wc) := keep (w := wr.drew) x0 hb3; have y1 : w3.cell? ⟨w.heap.size, 1, none⟩ = some (.slice g.pa g.np g.pc) := keep (w := wr.drew) x1 hb3; have y2 : w3.cell? ⟨b, off + k * 2, none⟩ = some (.string (l.T k)) := keep (w := wr.drew) q0 hb3; have HFN := Lib.hid (fin_new hbw HX.out hb3 #[.string ⟨#[]⟩, .slice none 0 0, .int .i64 0] 54))
                | (go_at_call 41; refine (refP_no g (l.T k) _ HO.out.p32 (HG.out.ps.below (hbw.drew.alloc hbw.size (.cells #[.string ⟨#[]⟩, .slice none 0 0, .int .i64 0] 54))) HO.out.sorted HH.out).mono ?_; rintro e w3 ⟨rfl, hb3⟩; have z0 := blk_keep (blk_new wr.drew (.cells #[.string ⟨#[]⟩, .slice none 0 0, .int .i64 0] 54)) hb3; have z1 : w3.cell? ⟨wr.heap.size, 0, none⟩ = some (.string ⟨#[]⟩) := cell_of z0 0 _ rfl; have z2 : w3.cell? ⟨wr.heap.size, 1, none⟩ = some (.slice none 0 0) := cell_of z0 1 _ rfl; have z3 : w3.cell? ⟨wr.heap.size, 2, none⟩ = some (.int .i64 0) := cell_of z0 2 _ rfl; have z4 : w3.frozen? ⟨wr.heap.size, 0, none⟩ = false := frozen_of z0 0; have z5 : w3.frozen? ⟨wr.heap.size, 1, none⟩ = false := frozen_of z0 1; have z6 : w3.frozen? ⟨wr.heap.size, 2, none⟩ = false := frozen_of z0 2; have HFN := Lib.hid (fin_set hbw HX.out 54 hb3 (.string ⟨#[]⟩) (.slice none 0 0) (.int .i64 0))))
            all_goals
              go_wp2
              go_ret
              exact ⟨ret_int (by rw [HF.out]; rfl), HFN.out.1⟩
        · have HF : Hid (fit g l = true) := by
            have : ((List.range l.n).all fun i => hasB g.P g.np (l.T i)) = true := by
              rw [List.all_eq_true]
              intro i hi
              exact HR.out i (by have := List.mem_range.1 hi; omega)
            unfold Hid fit fitB
            rw [this, HGB.out, HPB.out]
            rfl
          go_wp2
          go_ret
          exact ⟨ret_int (by rw [HF.out]; rfl), hbw⟩
    · have HPB := Lib.hid hp
      have HF := Lib.hid (show fit g l = false by unfold fit fitB; rw [hp, Bool.false_and, Bool.and_false])
      clear hp
      go_enter Try.func27, Try.ntmps27
      go_wp2_with fail
      refine (HCG.out _ HB.out).mono ?_
      rintro e w1 ⟨rfl, hb1⟩
      rw [HGB.out]
      have c1 := bt HB.out hb1 (by simp)
      have hev : errV true = 0 := rfl
      rw [hev]
      clear hev hb1
      go_wp2_with fail
      refine (HCP.out _ c1).mono ?_
      rintro e w2 ⟨rfl, hb2⟩
      rw [HPB.out]
      have c2 := bt c1 hb2 (Nat.le_refl _)
      go_wp2
      go_ret
      exact ⟨ret_int (by rw [HF.out]; rfl), c2⟩
  · have HGB := Lib.hid hg
    have HF := Lib.hid (show fit g l = false by unfold fit fitB; rw [hg, Bool.false_and])
    clear hg
    go_enter Try.func27, Try.ntmps27
    go_wp2_with fail
    refine (HCG.out _ HB.out).mono ?_
    rintro e w1 ⟨rfl, hb1⟩
    rw [HGB.out]
    have c1 := bt HB.out hb1 (by simp)
    have hev : errV false = 8 := rfl
    rw [hev]
    clear hev hb1
    go_wp2
    go_ret
    exact ⟨ret_int (by rw [HF.out]; rfl), c1⟩

set_option maxRecDepth 100000 in
set_option maxHeartbeats 1000000 in
theorem refCounted_any (x y : Int) (w : World) (hx : -1000000000000000 ≤ x ∧ x ≤ 1000000000000000) (hy : 1 ≤ y ∧ y ≤ 1000) :
    Calls Try.prog 39 #[.int .i64 x, .int .i64 y] w fun e w' => e = .returned (.int .i64 (cnt x y)) ∧ w' = w := by
  have h1 := mul_bd x y 1000000000000000 1000 hx (by omega)
  by_cases h0 : x ≤ 0
  · have HP := Lib.hid (show cnt x y = 0 by unfold cnt; rw [if_pos h0])
    go_enter Try.func39, Try.ntmps39
    go_wp2
    go_ret
    exact ⟨ret_int HP.out.symm, rfl⟩
  · have HP := Lib.hid (show cnt x y = (x * y + 999) / 1000 by unfold cnt; rw [if_neg h0])
    have h2 : 0 < x * y := Int.mul_pos (by omega) (by omega)
    have n1 : IntKind.i64.wrap (x * y) = x * y := IntWalk.i64_in _ (by omega)
    have n2 : IntKind.i64.wrap (x * y + 999) = x * y + 999 := IntWalk.i64_in _ (by omega)
    go_enter Try.func39, Try.ntmps39
    go_wp2
    go_ret
    refine ⟨ret_int ?_, rfl⟩
    rw [HP.out]

set_option maxRecDepth 100000 in
set_option maxHeartbeats 4000000 in
theorem refLoss_in (g : Gr) (l : Pf) (S : Nat) (w : World) (hG : GrAt w g) (hL : PfAt w l) (hf : fit g l = true) (hS : S < g.nw) :
    Calls Try.prog 37 #[.agg #[.slice g.wa g.nw g.wc, .slice g.pa g.np g.pc], .slice l.a l.n l.c, .int .i64 (S : Int)] w fun e w' => e = .returned (.int .i64 (loss g l S)) ∧ Below w.heap.size w w' := by
  have hblk := blk_new w (.cells #[.slice g.wa g.nw g.wc, .slice g.pa g.np g.pc] 25)
  have hbo : Below w.heap.size w (w.alloc (.cells #[.slice g.wa g.nw g.wc, .slice g.pa g.np g.pc] 25)) := (Below.refl _ _).alloc (Nat.le_refl _) _
  have HG := Lib.hid hG
  have HO := Lib.hid (fit_ok hf)
  obtain ⟨A, hla⟩ : ∃ A, A = l.a := ⟨_, rfl⟩
  have HLA := Lib.hid (show PosAt w A l.n l.T l.Q by rw [hla]; exact hL.at')
  have HB := Lib.hid hbo
  have HX0 := Lib.hid hblk
  have hn32 := (fit_ok hf).p.n32
  have hnw := (fit_ok hf).g.w50
  rw [← hla]
  clear hG hL hla hbo hblk hf
  go_enter Try.func37, Try.ntmps37
  go_wp2_with fail
  generalize w.alloc _ = wo at HX0 HB ⊢
  go_loopw [7, 8, 9, 10] (fun t c _ _ wr => ∃ k : Nat, k ≤ l.n ∧ c = .int .i64 k ∧ Hid (t = .int .i64 (lossUp g.P g.np l.T l.Q k S)) ∧ Below w.heap.size w wr ∧ Hid (wr.heap[w.heap.size]? = some (.cells #[.slice g.wa g.nw g.wc, .slice g.pa g.np g.pc] 25 (0, 0)))) (fun _ c _ _ _ => l.n - (intOf c).toNat)
  case atStart => exact ⟨0, by omega, rfl, rfl, HB.out, HX0⟩
  case round =>
    clear HX0 HB
    obtain ⟨k, hk, rfl, ht, hbw, HX⟩ := hrel
    obtain rfl := ht.out
    clear ht
    have x0 : wr.cell? ⟨w.heap.size, 0, none⟩ = some (.slice g.wa g.nw g.wc) := cell_of HX.out 0 _ rfl
    have x1 : wr.cell? ⟨w.heap.size, 1, none⟩ = some (.slice g.pa g.np g.pc) := cell_of HX.out 1 _ rfl
    by_cases hlt : k < l.n
    · obtain ⟨b, off, rfl, q0, q1⟩ := (HLA.out.below hbw) k hlt
      have hws : w.heap.size < wr.heap.size := World.block_lt_of_cell? _ _ x1
      have hbs : b < wr.heap.size := World.block_lt_of_cell? _ _ q0
      have n1 : wr.heap.size ≠ w.heap.size := by omega
      have n2 : wr.heap.size ≠ b := by omega
      have HH := Lib.hid (HO.out.has k hlt)
      have HI := Lib.hid (idx_spec (HO.out.has k hlt))
      have HN := Lib.hid (show lossUp g.P g.np l.T l.Q (k + 1) S = lossUp g.P g.np l.T l.Q k S - l.Q k * (g.P (idx g.P g.np (l.T k))).mv S from rfl)
      have hm1 := (HO.out.mv k S hlt hS).2
      have hm2 := HO.out.loss k S hk hS
      unfold mvOf at hm1
      go_wp2_with fail
      go_region_held3 (fun w' => w'.cell? ⟨w.heap.size, 0, none⟩ = some (.slice g.wa g.nw g.wc) ∧ w'.cell? ⟨w.heap.size, 1, none⟩ = some (.slice g.pa g.np g.pc) ∧ w'.cell? ⟨b, off + k * 2, none⟩ = some (.string (l.T k)))
        (first | (go_split_ands; refine ⟨?_, ?_, ?_⟩ <;> go_keep; done) | (go_split_ands; refine ⟨?_, ?_, ?_⟩ <;> refine keep ?_ hb3 <;> go_keep; done))
        (first
          | (go_at_call 41; refine (refP_yes g (l.T k) _ HO.out.g.p32 (HG.out.ps.below hbw.drew) HO.out.g.sorted HH.out).mono ?_; rintro e w3 ⟨rfl, hb3⟩; have e0 : wr.heap.size ≤ w3.heap.size := hb3.size; have e1 : w3.heap.size ≠ w.heap.size := (by omega); have e2 : w3.heap.size ≠ b := (by omega); have y0 : w3.cell? ⟨w.heap.size, 0, none⟩ = some (.slice g.wa g.nw g.wc) := keep (w := wr.drew) x0 hb3; have y1 : w3.cell? ⟨w.heap.size, 1, none⟩ = some (.slice g.pa g.np g.pc) := keep (w := wr.drew) x1 hb3; have y2 : w3.cell? ⟨b, off + k * 2, none⟩ = some (.string (l.T k)) := keep (w := wr.drew) q0 hb3; have HFN := Lib.hid (fin_new hbw HX.out hb3 #[.string (l.T k), .slice (g.P (idx g.P g.np (l.T k))).a (g.P (idx g.P g.np (l.T k))).len (g.P (idx g.P g.np (l.T k))).cap, .int .i64 (g.P (idx g.P g.np (l.T k))).fee] 54))
          | (go_at_call 41; refine (refP_yes g (l.T k) _ HO.out.g.p32 (HG.out.ps.below (hbw.drew.alloc hbw.size (.cells #[.string ⟨#[]⟩, .slice none 0 0, .int .i64 0] 54))) HO.out.g.sorted HH.out).mono ?_; rintro e w3 ⟨rfl, hb3⟩; have z0 := blk_keep (blk_new wr.drew (.cells #[.string ⟨#[]⟩, .slice none 0 0, .int .i64 0] 54)) hb3; have z1 : w3.cell? ⟨wr.heap.size, 0, none⟩ = some (.string ⟨#[]⟩) := cell_of z0 0 _ rfl; have z2 : w3.cell? ⟨wr.heap.size, 1, none⟩ = some (.slice none 0 0) := cell_of z0 1 _ rfl; have z3 : w3.cell? ⟨wr.heap.size, 2, none⟩ = some (.int .i64 0) := cell_of z0 2 _ rfl; have z4 : w3.frozen? ⟨wr.heap.size, 0, none⟩ = false := frozen_of z0 0; have z5 : w3.frozen? ⟨wr.heap.size, 1, none⟩ = false := frozen_of z0 1; have z6 : w3.frozen? ⟨wr.heap.size, 2, none⟩ = false := frozen_of z0 2; have HFN := Lib.hid (fin_set hbw HX.out 54 hb3 (.string (l.T k)) (.slice (g.P (idx g.P g.np (l.T k))).a (g.P (idx g.P g.np (l.T k))).len (g.P (idx g.P g.np (l.T k))).cap) (.int .i64 (g.P (idx g.P g.np (l.T k))).fee))))
      all_goals
        clear HX x0 x1 q0 q1 n1 n2 hws hbs hbw
        first
          | (clear e0 e1 e2 y0 y1 y2 hb3; generalize w3.alloc _ = wn at HFN ⊢; generalize w3.heap.size = G at HFN ⊢)
          | (clear z0 z1 z2 z3 z4 z5 z6 hb3; generalize ((w3.setCell _ _).setCell _ _).setCell _ _ = wn at HFN ⊢; generalize wr.heap.size = G at HFN ⊢)
        have HLN := Lib.hid (HO.out.g.len _ HI.out.1)
        obtain ⟨b1, off1, ha1, _, _, _, hI4⟩ := (HG.out.ps.below HFN.out.1) _ HI.out.1
        clear ha1
        obtain ⟨b0, off0, h00, _, q1n⟩ := (HLA.out.below HFN.out.1) k hlt
        cases h00
        obtain ⟨b2, off2, hm, m1⟩ := hI4 S (by rw [HLN.out]; exact hS)
        have p1 : wn.cell? ⟨G, 1, none⟩ = some (.slice (g.P (idx g.P g.np (l.T k))).a (g.P (idx g.P g.np (l.T k))).len (g.P (idx g.P g.np (l.T k))).cap) := cell_of HFN.out.2.2.1 1 _ rfl
        rw [hm, HLN.out] at p1
        clear hm hI4
        have k0 : (0 : Int) ≤ S := by omega
        have k1 : (S : Int) < g.nw := by omega
        generalize (g.P (idx g.P g.np (l.T k))).mv S = m at hm1 HN m1
        generalize lossUp g.P g.np l.T l.Q k S = L at hm2 HN ⊢
        have n1 : IntKind.i64.wrap (l.Q k * m) = l.Q k * m := IntWalk.i64_in _ (by omega)
        have n2 : IntKind.i64.wrap (L - l.Q k * m) = L - l.Q k * m := IntWalk.i64_in _ (by omega)
        go_wp2_with fail
        go_region
        go_wp2
        go_roundw
        case rel => exact ⟨k + 1, by omega, by go_num, by rw [HN.out]; rfl, HFN.out.1.drew, Lib.hid HFN.out.2.1⟩
        case measure => simp [intOf]; omega
    · obtain rfl : k = l.n := by omega
      go_wp2
      go_ret
      exact ⟨rfl, hbw⟩
end Go.Proofs.Ytmljjofpbonplaa.Mg
