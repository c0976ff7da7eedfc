/-
  Margin's laws: what they ask first (Great, great), and the example's grid.
-/
import Derived.Test.YtmljjofpbonplaaMg16
import Derived.Test.YtmljjofpbonplaaMgO
namespace Go.Proofs.Ytmljjofpbonplaa.Mg
open Go.RowKit Go.Proofs.Ytmljjofpbonplaa Go.Proofs.Ytmljjofpbonplaa.Nm

def farB (g : Gr) : Bool := (List.range (min g.np 41)).any fun i => decide (60 < (g.P i).len)
def greatB (g : Gr) : Bool := farB g || decide (60 < g.nw) || decide (40 < g.np)
theorem greatB_no {g : Gr} (h : greatB g = false) : g.nw ≤ 60 ∧ g.np ≤ 40 ∧ ∀ i, i < g.np → (g.P i).len ≤ 60 := by
  unfold greatB at h
  simp only [Bool.or_eq_false_iff, decide_eq_false_iff_not] at h
  obtain ⟨⟨h1, h2⟩, h3⟩ := h
  refine ⟨by omega, by omega, fun i hi => ?_⟩
  unfold farB at h1
  rw [List.any_eq_false] at h1
  have := h1 i (List.mem_range.2 (by omega))
  simpa using this

set_option maxRecDepth 100000 in
set_option maxHeartbeats 1000000 in
theorem refGreat_any (g : Gr) (w : World) (hG : GrAt w g) :
    Calls Try.prog 35 #[.agg #[.slice g.wa g.nw g.wc, .slice g.pa g.np g.pc]] w fun e w' => e = .returned (.bool (greatB g)) ∧ Below w.heap.size w w' := by
  have hx0 := blk_new w (.cells #[.slice g.wa g.nw g.wc, .slice g.pa g.np g.pc] 25)
  have hbo : Below w.heap.size w (w.alloc (.cells #[.slice g.wa g.nw g.wc, .slice g.pa g.np g.pc] 25)) := (Below.refl _ _).alloc (Nat.le_refl _) _
  obtain ⟨A, hpa⟩ : ∃ A, A = g.pa := ⟨_, rfl⟩
  have HPA := Lib.hid (show ProdsAt w A g.np g.P by rw [hpa]; exact hG.ps)
  have HD := Lib.hid hG.pd
  have hnp := hG.np
  have hnw := hG.nw
  unfold maxLen at hnp hnw
  have HGB := Lib.hid (show greatB g = (farB g || decide (60 < g.nw) || decide (40 < g.np)) from rfl)
  have HFB := Lib.hid (show farB g = (List.range (min g.np 41)).any fun i => decide (60 < (g.P i).len) from rfl)
  rw [← hpa] at hx0 hbo ⊢
  clear hpa hG
  go_enter Try.func35, Try.ntmps35
  go_wp2_with fail
  generalize w.alloc _ = wo at hx0 hbo ⊢
  have HX := Lib.hid hx0
  have HB := Lib.hid hbo
  clear hx0 hbo
  go_loopw [3] (fun c wr => ∃ k : Nat, k ≤ g.np ∧ k ≤ 41 ∧ c = .int .i64 k ∧ Hid (∀ i, i < k → ¬ 60 < (g.P i).len) ∧ wr = wo) (fun c _ => 41 - (intOf c).toNat)
  case atStart => exact ⟨0, by omega, by omega, rfl, Lib.hid (fun i hi => by omega), rfl⟩
  case round =>
    obtain ⟨k, hk, hk2, rfl, HR, rfl⟩ := hrel
    have x0 : wr.cell? ⟨w.heap.size, 0, none⟩ = some (.slice g.wa g.nw g.wc) := cell_of HX.out 0 _ rfl
    have x1 : wr.cell? ⟨w.heap.size, 1, none⟩ = some (.slice A g.np g.pc) := cell_of HX.out 1 _ rfl
    by_cases hlt : k < g.np ∧ k ≤ 40
    · obtain ⟨hl1, hl2⟩ := hlt
      obtain ⟨b, off, rfl, q0, q1, q2, _⟩ := (HPA.out.below HB.out) k hl1
      have hlen := (HD.out k).2
      unfold maxLen at hlen
      by_cases hfar : 60 < (g.P k).len
      · have HE : Hid (greatB g = true) := by
          unfold Hid
          rw [HGB.out, HFB.out, show ((List.range (min g.np 41)).any fun i => decide (60 < (g.P i).len)) = true from List.any_eq_true.2 ⟨k, List.mem_range.2 (by omega), decide_eq_true hfar⟩]
          rfl
        go_wp2
        go_ret
        exact ⟨ret_bool HE.out.symm, HB.out⟩
      · have HR2 : Hid (∀ i, i < k + 1 → ¬ 60 < (g.P i).len) := fun i hi => by
          rcases Nat.lt_or_ge i k with h | h
          · exact HR.out i h
          · obtain rfl : i = k := by omega
            exact hfar
        go_wp2
        go_roundw
        case rel => exact ⟨k + 1, by omega, by omega, by go_num, HR2, by simp⟩
        case measure => simp [intOf]; omega
    · have HE : Hid (greatB g = (decide (60 < g.nw) || decide (40 < g.np))) := by
        unfold Hid
        rw [HGB.out, HFB.out, show ((List.range (min g.np 41)).any fun i => decide (60 < (g.P i).len)) = false from ?_]
        · rfl
        · rw [List.any_eq_false]
          intro i hi
          have := List.mem_range.1 hi
          rw [decide_eq_true_eq]
          exact HR.out i (by omega)
      by_cases hl1 : k < g.np
      · have hl2 : ¬ k ≤ 40 := by omega
        clear hlt
        by_cases h60 : 60 < g.nw
        · have HE2 : Hid (greatB g = true) := by unfold Hid; rw [HE.out, decide_eq_true h60]; rfl
          go_wp2
          go_ret
          exact ⟨ret_bool (by rw [HE2.out] <;> first | rfl | (simp; omega)), HB.out⟩
        · have h40 : 40 < g.np := by omega
          have HE2 : Hid (greatB g = true) := by unfold Hid; rw [HE.out, decide_eq_true h40, Bool.or_true]
          go_wp2
          go_ret
          exact ⟨ret_bool (by rw [HE2.out] <;> first | rfl | (simp; omega)), HB.out⟩
      · clear hlt
        by_cases h60 : 60 < g.nw
        · have HE2 : Hid (greatB g = true) := by unfold Hid; rw [HE.out, decide_eq_true h60]; rfl
          go_wp2
          go_ret
          exact ⟨ret_bool (by rw [HE2.out] <;> first | rfl | (simp; omega)), HB.out⟩
        · by_cases h40 : 40 < g.np
          · have HE2 : Hid (greatB g = true) := by unfold Hid; rw [HE.out, decide_eq_true h40, Bool.or_true]
            go_wp2
            go_ret
            exact ⟨ret_bool (by rw [HE2.out] <;> first | rfl | (simp; omega)), HB.out⟩
          · have HE2 : Hid (greatB g = false) := by unfold Hid; rw [HE.out, decide_eq_false h40, decide_eq_false h60]; rfl
            go_wp2
            go_ret
            exact ⟨ret_bool (by rw [HE2.out] <;> first | rfl | (simp; omega)), HB.out⟩

set_option maxRecDepth 100000 in
set_option maxHeartbeats 1000000 in
theorem great_any (g : Gr) (a : Option Addr) (n c : Nat) (w : World) (hG : GrAt w g) (hn : n ≤ maxLen) :
    Calls Try.prog 12 #[.agg #[.slice g.wa g.nw g.wc, .slice g.pa g.np g.pc], .slice a n c] w fun e w' => e = .returned (.bool (greatB g || decide (40 < n))) ∧ Below w.heap.size w w' := by
  unfold maxLen at hn
  have hbo : Below w.heap.size w (w.alloc (.cells #[.slice g.wa g.nw g.wc, .slice g.pa g.np g.pc] 25)) := (Below.refl _ _).alloc (Nat.le_refl _) _
  have HC := Lib.hid (refGreat_any g _ (hG.below hbo))
  have HB := Lib.hid hbo
  clear hG hbo
  rcases hb (greatB g) with hg | hg
  · have HG := Lib.hid hg
    clear hg
    go_enter Try.func12, Try.ntmps12
    go_wp2_with fail
    refine HC.out.mono ?_
    rintro e w1 ⟨rfl, hb1⟩
    rw [HG.out]
    have c1 := bt HB.out hb1 (by simp)
    clear hb1 HB HC
    go_wp2
    go_ret
    exact ⟨by rw [HG.out]; rfl, c1⟩
  · have HG := Lib.hid hg
    clear hg
    by_cases h40 : 40 < n
    · have HD := Lib.hid (decide_eq_true h40)
      go_enter Try.func12, Try.ntmps12
      go_wp2_with fail
      refine HC.out.mono ?_
      rintro e w1 ⟨rfl, hb1⟩
      rw [HG.out]
      have c1 := bt HB.out hb1 (by simp)
      clear hb1 HB HC
      go_wp2
      go_ret
      exact ⟨ret_bool (by rw [HG.out, HD.out]; simp; omega), c1⟩
    · have HD := Lib.hid (decide_eq_false h40)
      go_enter Try.func12, Try.ntmps12
      go_wp2_with fail
      refine HC.out.mono ?_
      rintro e w1 ⟨rfl, hb1⟩
      rw [HG.out]
      have c1 := bt HB.out hb1 (by simp)
      clear hb1 HB HC
      go_wp2
      go_ret
      exact ⟨ret_bool (by rw [HG.out, HD.out]; simp; omega), c1⟩

/-! ### the example -/
/-- the chapter's grid, wherever it lies -/
def exG (wa pa ma : Addr) : Gr := ⟨some wa, 2, 2, some pa, 1, 1, fun i => if i = 0 then 1000 else 300, fun _ => ⟨⟨#[112]⟩, some ma, 2, 2, fun s => if s = 0 then -4 else 20, 1⟩⟩
def GridPost (w : World) : Ending → World → Prop := fun e w' => ∃ wa pa ma : Addr, e = .returned (.agg #[.slice (some wa) 2 2, .slice (some pa) 1 1]) ∧ GrAt w' (exG wa pa ma) ∧ Below w.heap.size w w'
set_option maxRecDepth 100000 in
set_option maxHeartbeats 1000000 in
theorem grid_any (w : World) : Calls Try.prog 33 #[] w (GridPost w) := by
  go_enter Try.func33, Try.ntmps33
  go_wp2_with fail
  generalize hwn : World.alloc _ _ = wn
  have e0 : wn.heap[w.heap.size]? = some (.cells #[.slice (some ⟨w.heap.size + 1, 0, none⟩) 2 2, .slice (some ⟨w.heap.size + 1 + 1 + 1, 0, none⟩) 1 1] 25 (0, 0)) := by
    rw [← hwn]
    exact blk_past _ _ (blk_past _ _ (blk_past _ _ (blk_new w _)))
  have e1 : wn.heap[w.heap.size + 1]? = some (.cells #[.int .i64 1000, .int .i64 300] 3 (0, 0)) := by
    rw [← hwn]
    have := blk_past _ (.cells #[.string ⟨#[112]⟩, .slice (some ⟨w.heap.size + 1 + 1, 0, none⟩) 2 2, .int .i64 1] 54) (blk_past _ (.cells #[.int .i64 (-4), .int .i64 20] 3) (blk_new (w.alloc (.cells #[.slice (some ⟨w.heap.size + 1, 0, none⟩) 2 2, .slice (some ⟨w.heap.size + 1 + 1 + 1, 0, none⟩) 1 1] 25)) (.cells #[.int .i64 1000, .int .i64 300] 3)))
    simpa using this
  have e2 : wn.heap[w.heap.size + 1 + 1]? = some (.cells #[.int .i64 (-4), .int .i64 20] 3 (0, 0)) := by
    rw [← hwn]
    have := blk_past _ (.cells #[.string ⟨#[112]⟩, .slice (some ⟨w.heap.size + 1 + 1, 0, none⟩) 2 2, .int .i64 1] 54) (blk_new ((w.alloc (.cells #[.slice (some ⟨w.heap.size + 1, 0, none⟩) 2 2, .slice (some ⟨w.heap.size + 1 + 1 + 1, 0, none⟩) 1 1] 25)).alloc (.cells #[.int .i64 1000, .int .i64 300] 3)) (.cells #[.int .i64 (-4), .int .i64 20] 3))
    simpa using this
  have e3 : wn.heap[w.heap.size + 1 + 1 + 1]? = some (.cells #[.string ⟨#[112]⟩, .slice (some ⟨w.heap.size + 1 + 1, 0, none⟩) 2 2, .int .i64 1] 54 (0, 0)) := by
    rw [← hwn]
    have := blk_new (((w.alloc (.cells #[.slice (some ⟨w.heap.size + 1, 0, none⟩) 2 2, .slice (some ⟨w.heap.size + 1 + 1 + 1, 0, none⟩) 1 1] 25)).alloc (.cells #[.int .i64 1000, .int .i64 300] 3)).alloc (.cells #[.int .i64 (-4), .int .i64 20] 3)) (.cells #[.string ⟨#[112]⟩, .slice (some ⟨w.heap.size + 1 + 1, 0, none⟩) 2 2, .int .i64 1] 54)
    simpa using this
  have hb : Below w.heap.size w wn := by
    rw [← hwn]
    exact ((((Below.refl _ _).alloc (Nat.le_refl _) _).alloc (by simp) _).alloc (by simp; omega) _).alloc (by simp; omega) _
  have g0 := cell_of e0 0 _ rfl
  have g1 := cell_of e0 1 _ rfl
  clear hwn
  refine bodyPost_ret (v := .agg #[.slice (some ⟨w.heap.size + 1, 0, none⟩) 2 2, .slice (some ⟨w.heap.size + 1 + 1 + 1, 0, none⟩) 1 1]) (by simp [results, Try.results33, go_sem, g0, g1]) rfl ⟨_, _, ⟨w.heap.size + 1 + 1, 0, none⟩, rfl, ⟨by show 2 ≤ maxLen; unfold maxLen; omega, by show 1 ≤ maxLen; unfold maxLen; omega, fun i => ⟨by show 1 ≤ maxLen; unfold maxLen; omega, by show 2 ≤ maxLen; unfold maxLen; omega⟩, fun i hi => ?_, fun i hi => ?_⟩, hb⟩
  · have hi : i < 2 := hi
    refine ⟨_, _, rfl, ?_⟩
    rcases (show i = 0 ∨ i = 1 by omega) with rfl | rfl
    · exact cell_of e1 0 _ rfl
    · exact cell_of e1 1 _ rfl
  · have hi : i < 1 := hi
    obtain rfl : i = 0 := by omega
    refine ⟨_, _, rfl, cell_of e3 0 _ rfl, cell_of e3 1 _ rfl, cell_of e3 2 _ rfl, fun s hs => ?_⟩
    have hs : s < 2 := hs
    refine ⟨_, _, rfl, ?_⟩
    rcases (show s = 0 ∨ s = 1 by omega) with rfl | rfl
    · exact cell_of e2 0 _ rfl
    · exact cell_of e2 1 _ rfl

/-! ### the example's numbers -/
theorem ex_nums (wa pa ma : Addr) (a : Option Addr) (c : Nat) :
    (fit (exG wa pa ma) (pfl a c [(⟨#[112]⟩, 5)]) = true ∧ fit (exG wa pa ma) (pfl a c [(⟨#[112]⟩, -5)]) = true) ∧
    wBase (exG wa pa ma) (pfl a c [(⟨#[112]⟩, 5)]) = 20 ∧ margV (exG wa pa ma) (pfl a c [(⟨#[112]⟩, 5)]) = 25 ∧
    wBase (exG wa pa ma) (pfl a c [(⟨#[112]⟩, -5)]) = 30 ∧ margV (exG wa pa ma) (pfl a c [(⟨#[112]⟩, -5)]) = 35 ∧
    wAt (exG wa pa ma) (pfl a c [(⟨#[112]⟩, -5)]) = 1 ∧ lossV (exG wa pa ma) (pfl a c [(⟨#[112]⟩, -5)]) 1 = 100 ∧ lossE (exG wa pa ma) (pfl a c [(⟨#[112]⟩, -5)]) 1 = 0 := by
  refine ⟨⟨?_, ?_⟩, ?_, ?_, ?_, ?_, ?_, ?_, ?_⟩ <;> kernel_rfl
end Go.Proofs.Ytmljjofpbonplaa.Mg
