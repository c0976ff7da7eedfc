/-
  The walks of schedule.regular and of the iterator that it returns; of the two closures of schedule.inner.
-/
import Derived.Test.YtainmmdlbajpnaaScB
import Derived.RangeFuncNested
import Derived.RangeFuncBound
import Derived.RangeFuncCalls
import Derived.RangeFuncLeaves
import Derived.Shelf.Abstract
import Derived.Shelf.RegionOpen
import Derived.OwnWalkIn
import Derived.TacticsInMore
import Derived.LoopNIn
import Derived.LoopIn
import Derived.Deep.CutRange
namespace Go.Proofs.Ytainmmdlbajpnaa.Sc
open Go.RowKit Go.Shelf Go.Proofs.Ytainmmdlbajpnaa Go.Proofs.Ytainmmdlbajpnaa.Ls Go.Proofs.Ytainmmdlbajpnaa.Kb Go.Proofs.Ytainmmdlbajpnaa.Dt
attribute [local go_sem] Oper.semAt_some

/-- AddMonths, at every number of months -/
theorem am (y m d n k : Int) (last : Bool) (w : World) (hD : IsDate y m d n) (hn : n ≤ 99999) :
    Calls Try.prog 13 #[.int .i64 n, .int .i64 k, .bool last] w fun e w' => ∃ g : Int, e = .returned (.tuple #[.int .i64 (addV y m d k last), .int .i64 g]) ∧ (addOk y m d k last = true ∧ g = 0 ∨ addOk y m d k last = false ∧ (g = 2 ∨ g = 40)) ∧ Below w.heap.size w w' := by
  by_cases h : -4000 ≤ k ∧ k ≤ 4000
  · refine (add_yes y m d n k last w hD hn h.1 h.2).mono ?_
    rintro e w' ⟨rfl, hb⟩
    refine ⟨_, rfl, ?_, hb⟩
    rcases addE_cases y m d k last with ⟨h1, h2⟩ | ⟨h1, h2, _⟩
    · exact .inl ⟨h1, h2⟩
    · exact .inr ⟨h1, .inr h2⟩
  · have ho : addOk y m d k last = false := by
      obtain ⟨a1, a2, a3, a4, a5, a6, a7⟩ := hD
      exact add_far a1 a2 a3 a4 (by omega)
    have hv : addV y m d k last = 0 := by unfold addV; rw [ho]; rfl
    rw [hv]
    refine (add_no n k last w (by omega)).mono ?_
    rintro e w' ⟨rfl, hb⟩
    exact ⟨_, rfl, .inr ⟨ho, .inl rfl⟩, hb⟩

/-- the blocks of a list lie as they lay -/
def KpB (bs : List Nat) (W W' : World) : Prop := ∀ b ∈ bs, W'.heap[b]? = W.heap[b]?
theorem KpB.t {bs : List Nat} {A B C : World} (h : KpB bs A B) (k : KpB bs B C) : KpB bs A C := fun b hb => (k b hb).trans (h b hb)
theorem kpB_b {bs : List Nat} {w : World} (hbs : ∀ b ∈ bs, b < w.heap.size) (W : World) (l : Nat) (o o' : Obj) (hl : w.heap.size ≤ l) (_ : W.heap[l]? = some o) (_ : o.isCells = false) (_ : o.isWalk = false) : KpB bs W (W.putObj l o') :=
  fun b hb => World.putObj_heap_other (by have := hbs b hb; omega)

/-- what the iterator gives: the days and whether they exist, up to the first that does not -/
def regL (y m d st : Int) (last : Bool) (M : Nat) : List (Int × Bool) := (List.range M).map fun k => (vk y m d st last (k + 1), ok y m d st last (k + 1))
theorem regL_succ (y m d st : Int) (last : Bool) (k : Nat) : regL y m d st last (k + 1) = regL y m d st last k ++ [(vk y m d st last (k + 1), ok y m d st last (k + 1))] := by
  simp [regL, List.range_succ]
theorem regL_len (y m d st : Int) (last : Bool) (k : Nat) : (regL y m d st last k).length = k := by simp [regL]
theorem regL_pre (y m d st : Int) (last : Bool) (k M : Nat) (h : k ≤ M) : regL y m d st last k <+: regL y m d st last M := by
  induction M with
  | zero =>
    obtain rfl : k = 0 := by omega
    exact List.prefix_refl _
  | succ M ih =>
    by_cases e : k = M + 1
    · rw [e]
      exact List.prefix_refl _
    · rw [regL_succ]
      exact (ih (by omega)).trans (List.prefix_append _ _)
def encR (x : Int × Bool) : Array Value := #[.int .i64 x.1, .bool x.2]

theorem mul_bd (k : Nat) (st : Int) (hk : k ≤ 4002) (h1 : -1200 ≤ st) (h2 : st ≤ 1200) : -5000000 ≤ (k : Int) * st ∧ (k : Int) * st ≤ 5000000 := by
  have a : (k : Int) * st ≤ k * 1200 := Int.mul_le_mul_of_nonneg_left h2 (by omega)
  have b : (k : Int) * (-1200) ≤ k * st := Int.mul_le_mul_of_nonneg_left h1 (by omega)
  omega

theorem grown_of {w w' : World} (h : Below w.heap.size w w') : w.grownBy w' none := ⟨h.os, h.tape, h.output, h.size, fun i hi _ => h.block i hi⟩

set_option maxRecDepth 100000 in
set_option maxHeartbeats 1000000 in
theorem iter_in (s : Sch) (y m d st n : Int) (M X Fb T l N : Nat) (J Jx : List (Int × Bool) → World → Prop) (W : World) (hD : IsDate y m d n) (hn : n ≤ 99999) (h1 : -1200 ≤ st) (h2 : st ≤ 1200) (hst : st ≠ 0) (hN : 1 ≤ N)
    (hM1 : 1 ≤ M) (hM : M ≤ 4001) (hok : ∀ k, 1 ≤ k → k < M → ok y m d st s.last k = true) (hno : ok y m d st s.last M = false)
    (hX : W.heap[X]? = some (.cells s.cells 26 (0, 0))) (hF : W.heap[Fb]? = some (.cells #[.int .i64 n] 3 (0, 0))) (hT : W.heap[T]? = some (.cells #[.int .i64 st] 3 (0, 0)))
    (hJ : AbidesFrom W.heap.size J) (_hJx : AbidesFrom W.heap.size Jx)
    (hY : ∀ pre x W1, J pre W1 → pre.length < M → YieldAt Fence.wide (N - 1) Try.prog l (encR x) W1 fun e W' =>
      (e = .returned (.bool true) ∧ J (pre ++ [x]) W' ∧ KpB [X, Fb, T] W1 W') ∨ (e = .returned (.bool false) ∧ Jx (pre ++ [x]) W'))
    (h0 : J [] W) :
    CallsIn Fence.wide N Try.prog 57 (#[.func (.yield l) #[] #[]] ++ #[.pointer (some ⟨T, 0, none⟩), .pointer (some ⟨Fb, 0, none⟩), .pointer (some ⟨X, 0, none⟩)]) W fun e W' => (∃ v, e = .returned v) ∧
      ((∃ ys, ys = regL y m d st s.last M ∧ J ys W') ∨ (∃ pre, pre <+: regL y m d st s.last M ∧ Jx pre W')) := by
  refine callsIn_of_wp Try.func57 rfl trivial ?_ rfl
  simp only [Try.ntmps57, List.size_toArray, List.length_cons, List.length_nil, Nat.reduceAdd, Nat.reduceSub, Array.replicate_succ, Array.replicate_zero, List.push_toArray, List.append_toArray, List.nil_append, List.cons_append]
  have HX := Lib.hid hX
  have HF := Lib.hid hF
  have HT := Lib.hid hT
  have HOK := Lib.hid hok
  have HD := Lib.hid hD
  have t0 := cell_of hT 0 _ rfl
  clear hX hF hT hok hD
  gi_wp2
  gi_loopw [5, 6, 7] (fun p _ _ wr => ∃ k : Nat, k < M ∧ p = .int .i64 (((k + 1 : Nat) : Int) * st) ∧ J (regL y m d st s.last k) wr ∧ Hid (wr.heap[X]? = some (.cells s.cells 26 (0, 0))) ∧ Hid (wr.heap[Fb]? = some (.cells #[.int .i64 n] 3 (0, 0))) ∧ Hid (wr.heap[T]? = some (.cells #[.int .i64 st] 3 (0, 0))))
    (fun p _ _ _ => M - (intOf p / st).toNat)
  case atStart =>
    exact ⟨0, by omega, by simp, h0, HX, HF, HT⟩
  case round =>
    clear HX HF HT t0
    obtain ⟨k, hk, rfl, hJk, HX, HF, HT⟩ := hrel
    have f0 := cell_of HF.out 0 _ rfl
    have x4 : wr.cell? ⟨X, 4, none⟩ = some (.bool s.last) := cell_of HX.out 4 _ rfl
    have hbd := mul_bd (k + 1) st (by omega) h1 h2
    have hbd2 := mul_bd (k + 2) st (by omega) h1 h2
    have hq2 : (((k + 1 : Nat) : Int) * st) + st = ((k + 2 : Nat) : Int) * st := by
      rw [show ((k + 2 : Nat) : Int) = ((k + 1 : Nat) : Int) + 1 by omega, Int.add_mul]
      omega
    have HQ : Hid (vk y m d st s.last (k + 1) = addV y m d (((k + 1 : Nat) : Int) * st) s.last ∧ ok y m d st s.last (k + 1) = addOk y m d (((k + 1 : Nat) : Int) * st) s.last) := ⟨rfl, rfl⟩
    have HQ2 : Hid ((((k + 1 : Nat) : Int) * st) + st = ((k + 2 : Nat) : Int) * st) := hq2
    have HM : Hid (M - ((((k + 1 : Nat) : Int) * st) / st).toNat = M - (k + 1)) := by
      unfold Hid
      rw [Int.mul_ediv_cancel _ hst]
      simp
    rw [← hq2] at hbd2
    clear hq2
    generalize ((k + 1 : Nat) : Int) * st = q at *
    gi_wp2_with fail
    refine ⟨trivial, callsIn_wide.2 ((am y m d n q s.last wr HD.out hn).mono ?_)⟩
    rintro e w1 ⟨g, rfl, ho, hb1⟩
    have hJ1 : J (regL y m d st s.last k) w1 := hJ _ _ _ none hJk (grown_of hb1) (by simp)
    have HX1 := Lib.hid (blk_keep HX.out hb1)
    have HF1 := Lib.hid (blk_keep HF.out hb1)
    have HT1 := Lib.hid (blk_keep HT.out hb1)
    have HY := Lib.hid (hY (regL y m d st s.last k) (vk y m d st s.last (k + 1), ok y m d st s.last (k + 1)) w1 hJ1 (by rw [regL_len]; exact hk))
    clear hY f0 x4 hJ1 hJk HX HF HT hb1
    obtain ⟨fn, tmps, assign, body, hy, hR⟩ := HY.out
    clear HY
    rw [← regL_succ] at hR
    dsimp only [encR] at hy
    rw [HQ.out.1, HQ.out.2] at hy
    rcases ho with ⟨ho, rfl⟩ | ⟨ho, hg⟩
    · have hlt : k + 1 < M := by
        rcases Nat.lt_or_ge (k + 1) M with h | h
        · exact h
        · obtain rfl : k + 1 = M := by omega
          rw [← HQ.out.2, hno] at ho
          cases ho
      rw [ho] at hy
      gi_wp2
      refine hR.mono ?_
      rintro e W3 (⟨rfl, hJ3, hk3⟩ | ⟨rfl, hJx3⟩)
      · have HX3 := Lib.hid ((hk3 X (by simp)).trans HX1.out)
        have HF3 := Lib.hid ((hk3 Fb (by simp)).trans HF1.out)
        have HT3 := Lib.hid ((hk3 T (by simp)).trans HT1.out)
        have t3 := cell_of HT3.out 0 _ rfl
        gi_wp2
        go_roundw
        case rel =>
          refine ⟨k + 1, hlt, ?_, hJ3, HX3, HF3, HT3⟩
          rw [HQ2.out]
        case measure =>
          have e2 : ((k + 2 : Nat) : Int) * st / st = ((k + 2 : Nat) : Int) := Int.mul_ediv_cancel _ hst
          simp only [intOf]
          rw [HQ2.out, e2, HM.out]
          omega
      · gi_wp2
        refine bodyPost_ret (results_none rfl _ _ _) rfl ?_
        exact ⟨⟨_, rfl⟩, .inr ⟨_, regL_pre _ _ _ _ _ _ _ (by omega), hJx3⟩⟩
    · have hM' : k + 1 = M := by
        rcases Nat.lt_or_ge (k + 1) M with h | h
        · rw [← HQ.out.2, HOK.out (k + 1) (by omega) h] at ho
          cases ho
        · omega
      rw [ho] at hy
      rcases hg with rfl | rfl
      all_goals
        gi_wp2
        refine hR.mono ?_
        rintro e W3 (⟨rfl, hJ3, hk3⟩ | ⟨rfl, hJx3⟩)
        all_goals gi_wp2
        · refine bodyPost_ret (results_none rfl _ _ _) rfl ?_
          exact ⟨⟨_, rfl⟩, .inl ⟨_, by rw [hM'], hJ3⟩⟩
        · refine bodyPost_ret (results_none rfl _ _ _) rfl ?_
          exact ⟨⟨_, rfl⟩, .inr ⟨_, regL_pre _ _ _ _ _ _ _ (by omega), hJx3⟩⟩

/-- **the iterator's contract** -/
theorem iter_stops (s : Sch) (y m d st n : Int) (M X Fb T N : Nat) (w : World) (hD : IsDate y m d n) (hn : n ≤ 99999) (h1 : -1200 ≤ st) (h2 : st ≤ 1200) (hst : st ≠ 0) (hN : 1 ≤ N)
    (hM1 : 1 ≤ M) (hM : M ≤ 4001) (hok : ∀ k, 1 ≤ k → k < M → ok y m d st s.last k = true) (hno : ok y m d st s.last M = false)
    (hX : w.heap[X]? = some (.cells s.cells 26 (0, 0))) (hF : w.heap[Fb]? = some (.cells #[.int .i64 n] 3 (0, 0))) (hT : w.heap[T]? = some (.cells #[.int .i64 st] 3 (0, 0))) :
    SeqStopsK Fence.wide N Try.prog 57 #[.pointer (some ⟨T, 0, none⟩), .pointer (some ⟨Fb, 0, none⟩), .pointer (some ⟨X, 0, none⟩)] encR (KpB [X, Fb, T])
      (fun ys => ys = regL y m d st s.last M) (fun pre => pre <+: regL y m d st s.last M) M w := fun l J Jx W hW hJ hJx hY h0 =>
  iter_in s y m d st n M X Fb T l N J Jx W hD hn h1 h2 hst hN hM1 hM hok hno (blk_keep hX hW) (blk_keep hF hW) (blk_keep hT hW) hJ hJx hY h0

theorem set1 {w : World} {B : Nat} {a : Value} {t : TypeId} (h : w.heap[B]? = some (.cells #[a] t (0, 0))) (x : Value) : (w.setCell ⟨B, 0, none⟩ x).heap[B]? = some (.cells #[x] t (0, 0)) := by
  simp [World.setCell, Array.getElem?_modify, h]
theorem far_set {w : World} {B C : Nat} {o : Obj} (h : w.heap[C]? = some o) (hne : C ≠ B) (x : Value) : (w.setCell ⟨B, 0, none⟩ x).heap[C]? = some o := by
  rw [Below.heap_setCell w ⟨B, 0, none⟩ x C hne, h]

/-- from which day, by how many months -/
def Sch.from (s : Sch) : Int := if s.back then s.E else s.S
def Sch.step (s : Sch) : Int := if s.back then -s.Mo else s.Mo

set_option maxRecDepth 100000 in
set_option maxHeartbeats 1000000 in
theorem regular_any (s : Sch) (w : World) (hMo : 1 ≤ s.Mo ∧ s.Mo ≤ 1200) :
    Calls Try.prog 46 #[.agg s.cells] w fun e w' => ∃ X Fb T : Nat, e = .returned (.func (.func 57) #[] #[.pointer (some ⟨T, 0, none⟩), .pointer (some ⟨Fb, 0, none⟩), .pointer (some ⟨X, 0, none⟩)]) ∧
      w'.heap[X]? = some (.cells s.cells 26 (0, 0)) ∧ w'.heap[Fb]? = some (.cells #[.int .i64 s.from] 3 (0, 0)) ∧ w'.heap[T]? = some (.cells #[.int .i64 s.step] 3 (0, 0)) ∧
      (w.heap.size ≤ X ∧ w.heap.size ≤ Fb ∧ w.heap.size ≤ T) ∧ Below w.heap.size w w' := by
  obtain ⟨S, E, Mo, back, last, stub, roll, wk, a, c, hs⟩ := s
  obtain ⟨m1, m2⟩ := hMo
  simp only [Sch.cells, Sch.from, Sch.step] at *
  have hbo : Below w.heap.size w (w.alloc (.cells #[.int .i64 S, .int .i64 E, .int .i64 Mo, .bool back, .bool last, .int .u8 stub, .int .u8 roll, .int .u8 wk, .slice a hs.length c] 26)) := (Below.refl _ _).alloc (Nat.le_refl _) _
  have hx := blk_new w (.cells #[.int .i64 S, .int .i64 E, .int .i64 Mo, .bool back, .bool last, .int .u8 stub, .int .u8 roll, .int .u8 wk, .slice a hs.length c] 26)
  have hwo : (w.alloc (.cells #[.int .i64 S, .int .i64 E, .int .i64 Mo, .bool back, .bool last, .int .u8 stub, .int .u8 roll, .int .u8 wk, .slice a hs.length c] 26)).heap.size = w.heap.size + 1 := World.size_alloc _ _
  have hnm : -9223372036854775808 ≤ -Mo ∧ -Mo ≤ 9223372036854775807 := by omega
  go_enter Try.func46, Try.ntmps46
  go_upto_region 1 with fail
  generalize w.alloc _ = wo at hx hbo hwo ⊢
  have x0 := cell_of hx 0 _ rfl
  have x1 := cell_of hx 1 _ rfl
  have x2 := cell_of hx 2 _ rfl
  have x3 := cell_of hx 3 _ rfl
  have b1 : ∀ o p : Obj, ((wo.alloc o).alloc p).heap[w.heap.size + 1]? = some o ∧ ((wo.alloc o).alloc p).heap[w.heap.size + 1 + 1]? = some p := fun o p => by
    have := blk_two wo o p
    rwa [hwo] at this
  have b2 : ∀ o p : Obj, Below w.heap.size w ((wo.alloc o).alloc p) := fun o p => (hbo.alloc (by omega) _).alloc (by simp; omega) _
  have b3 : ∀ o p : Obj, ((wo.alloc o).alloc p).heap[w.heap.size]? = wo.heap[w.heap.size]? := fun o p => by
    rw [blk_past _ p (blk_past _ o hx), hx]
  have HB1 := Lib.hid b1
  have HB2 := Lib.hid b2
  have HB3 := Lib.hid b3
  clear b1 b2 b3
  have hxo := Lib.hid hx
  clear hx hbo
  go_region
  · generalize hwn : World.drew _ = wn
    have kx : wn.heap[w.heap.size]? = some (.cells #[.int .i64 S, .int .i64 E, .int .i64 Mo, .bool back, .bool last, .int .u8 stub, .int .u8 roll, .int .u8 wk, .slice a hs.length c] 26 (0, 0)) := by rw [← hwn]; exact (HB3.out _ _).trans hxo.out
    have kF : wn.heap[w.heap.size + 1]? = some (.cells #[.int .i64 S] 3 (0, 0)) := by rw [← hwn]; exact (HB1.out _ _).1
    have kT : wn.heap[w.heap.size + 1 + 1]? = some (.cells #[.int .i64 Mo] 3 (0, 0)) := by rw [← hwn]; exact (HB1.out _ _).2
    have kb : Below w.heap.size w wn := by rw [← hwn]; exact (HB2.out _ _).drew
    clear hwn x0 x1 x2 x3
    have x1 := cell_of kx 1 _ rfl
    have x2 := cell_of kx 2 _ rfl
    have x3 := cell_of kx 3 _ rfl
    have cF := cell_of kF 0 _ rfl
    have cT := cell_of kT 0 _ rfl
    have fF := frozen_of kF 0
    have fT := frozen_of kT 0
    have HKx := Lib.hid kx
    have HKF := Lib.hid kF
    have HKT := Lib.hid kT
    clear kx kF kT
    cases back
    · go_wp2
      go_ret
      exact ⟨w.heap.size, w.heap.size + 1, w.heap.size + 1 + 1, rfl, HKx.out, HKF.out, HKT.out, ⟨by omega, by omega, by omega⟩, kb⟩
    · go_wp2_with fail
      go_region
      all_goals
        go_wp2
        go_ret
        refine ⟨w.heap.size, w.heap.size + 1, w.heap.size + 1 + 1, rfl, ?_, ?_, ?_, ⟨by omega, by omega, by omega⟩, ?_⟩
        · exact far_set (far_set HKx.out (by omega) _) (by omega) _
        · first | exact far_set (set1 HKF.out _) (by omega) _ | exact set1 (far_set HKF.out (by omega) _) _
        · first | exact far_set (set1 HKT.out _) (by omega) _ | exact set1 (far_set HKT.out (by omega) _) _
        · exact ((kb.setCell (by simp <;> omega) _).setCell (by simp <;> omega) _).drew
  · generalize hwn : World.drew _ = wn
    have kx : wn.heap[w.heap.size]? = some (.cells #[.int .i64 S, .int .i64 E, .int .i64 Mo, .bool back, .bool last, .int .u8 stub, .int .u8 roll, .int .u8 wk, .slice a hs.length c] 26 (0, 0)) := by rw [← hwn]; exact (HB3.out _ _).trans hxo.out
    have kF : wn.heap[w.heap.size + 1 + 1]? = some (.cells #[.int .i64 S] 3 (0, 0)) := by rw [← hwn]; exact (HB1.out _ _).2
    have kT : wn.heap[w.heap.size + 1]? = some (.cells #[.int .i64 Mo] 3 (0, 0)) := by rw [← hwn]; exact (HB1.out _ _).1
    have kb : Below w.heap.size w wn := by rw [← hwn]; exact (HB2.out _ _).drew
    clear hwn x0 x1 x2 x3
    have x1 := cell_of kx 1 _ rfl
    have x2 := cell_of kx 2 _ rfl
    have x3 := cell_of kx 3 _ rfl
    have cF := cell_of kF 0 _ rfl
    have cT := cell_of kT 0 _ rfl
    have fF := frozen_of kF 0
    have fT := frozen_of kT 0
    have HKx := Lib.hid kx
    have HKF := Lib.hid kF
    have HKT := Lib.hid kT
    clear kx kF kT
    cases back
    · go_wp2
      go_ret
      exact ⟨w.heap.size, w.heap.size + 1 + 1, w.heap.size + 1, rfl, HKx.out, HKF.out, HKT.out, ⟨by omega, by omega, by omega⟩, kb⟩
    · go_wp2_with fail
      go_region
      all_goals
        go_wp2
        go_ret
        refine ⟨w.heap.size, w.heap.size + 1 + 1, w.heap.size + 1, rfl, ?_, ?_, ?_, ⟨by omega, by omega, by omega⟩, ?_⟩
        · exact far_set (far_set HKx.out (by omega) _) (by omega) _
        · first | exact far_set (set1 HKF.out _) (by omega) _ | exact set1 (far_set HKF.out (by omega) _) _
        · first | exact far_set (set1 HKT.out _) (by omega) _ | exact set1 (far_set HKT.out (by omega) _) _
        · exact ((kb.setCell (by simp <;> omega) _).setCell (by simp <;> omega) _).drew

end Go.Proofs.Ytainmmdlbajpnaa.Sc
