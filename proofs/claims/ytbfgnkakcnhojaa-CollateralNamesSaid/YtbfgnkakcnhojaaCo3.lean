/-
  Collateral: the walks of issuer, asset and find.
-/
import Derived.Test.YtbfgnkakcnhojaaCo2
namespace Go.Proofs.Ytbfgnkakcnhojaa.Co
open Go.RowKit Go.Proofs.Ytbfgnkakcnhojaa Go.Proofs.Ytbfgnkakcnhojaa.Ls Go.Proofs.Ytbfgnkakcnhojaa.Kb
open Go.Proofs.Ytbfgnkakcnhojaa.Nm hiding ret_bool ret_int

/-- the element at what was found -/
def oi (xs : List (ByteArray × Int)) : Option Nat → ByteArray × Int
  | some i => gi xs i
  | none => i0
def oa (xs : List As) : Option Nat → As
  | some i => ga xs i
  | none => a0

theorem set2 {w : World} {B : Nat} {a0 a1 : Value} {t : TypeId} (h : w.heap[B]? = some (.cells #[a0, a1] t (0, 0))) (x y : Value) :
    ((w.setCell ⟨B, 0, none⟩ x).setCell ⟨B, 1, none⟩ y).heap[B]? = some (.cells #[x, y] t (0, 0)) := by
  simp [World.setCell, Array.getElem?_modify, h]
theorem set6 {w : World} {B : Nat} {a0 a1 a2 a3 a4 a5 : Value} {t : TypeId} (h : w.heap[B]? = some (.cells #[a0, a1, a2, a3, a4, a5] t (0, 0))) (x y z u v q : Value) :
    ((((((w.setCell ⟨B, 0, none⟩ x).setCell ⟨B, 1, none⟩ y).setCell ⟨B, 2, none⟩ z).setCell ⟨B, 3, none⟩ u).setCell ⟨B, 4, none⟩ v).setCell ⟨B, 5, none⟩ q).heap[B]? = some (.cells #[x, y, z, u, v, q] t (0, 0)) := by
  simp [World.setCell, Array.getElem?_modify, h]

set_option maxRecDepth 100000 in
set_option maxHeartbeats 1000000 in
theorem issuer_any (a b : Option Addr) (c d n : Nat) (xs : List (ByteArray × Int)) (t : ByteArray) (r : Option Nat) (w : World) (hn : xs.length ≤ 1000) (hA : AtL w 2 isc a xs) (hs : Sorted xs.length fun i => (gi xs i).1) (hF : Found xs.length (fun i => (gi xs i).1) t r) :
    Calls Try.prog 45 #[.agg #[.slice b n d, .slice a xs.length c], .string t] w fun e w' => e = .returned (.tuple #[.agg #[.string (oi xs r).1, .int .i64 (oi xs r).2], .bool r.isSome]) ∧ Below w.heap.size w w' := by
  obtain ⟨J, hJ, h1, h2, hc⟩ := found_place hs hF
  have HA := Lib.hid hA
  have hbo : Below w.heap.size w ((w.alloc (.cells #[.slice b n d, .slice a xs.length c] 25)).alloc (.cells #[.string ⟨#[]⟩, .int .i64 0] 50)) := ((Below.refl _ _).alloc (Nat.le_refl _) _).alloc (by simp) _
  have HX := Lib.hid (blk_two w (.cells #[.slice b n d, .slice a xs.length c] 25) (.cells #[.string ⟨#[]⟩, .int .i64 0] 50))
  clear hA hs hF
  rcases hc with ⟨i, rfl, rfl, hJn, hz⟩ | ⟨rfl, hno⟩
  · have HSE := Lib.hid (fun (w' : World) (h : AtL w' 2 isc a xs) => iss_search a c xs t i true w' hn h hJ h1 h2 (by rw [decide_eq_true hJn, hz]; rfl))
    clear h1 h2 hz
    have hi : (i : Int) < xs.length := by omega
    obtain ⟨lb, lo, rfl, _⟩ := at_is HA.out i hJn
    have HQ := Lib.hid (fun (w' : World) (h : Below w.heap.size w w') => at_is' (HA.out.below h) i hJn)
    rw [show oi xs (some i) = xs.getD i i0 from rfl, show (some i).isSome = true from rfl]
    generalize xs.getD i i0 = x at HQ ⊢
    go_enter Try.func45, Try.ntmps45
    go_wp2_with fail
    generalize (w.alloc _).alloc _ = wo at hbo HX ⊢
    refine (HSE.out wo (HA.out.below hbo)).mono ?_
    rintro e w1 ⟨rfl, hb1⟩
    have c1 := bt hbo hb1 (Nat.le_refl _)
    have hx1 := blk_keep HX.out.1 hb1
    have hx2 := blk_keep HX.out.2 hb1
    have x0 := cell_of hx1 0 _ rfl
    have x1 := cell_of hx1 1 _ rfl
    obtain ⟨q0, q1⟩ := HQ.out w1 c1
    have HX2 := Lib.hid hx2
    clear HSE hbo hb1 hx1 HQ
    have hs1 := blk_lt hx2
    have y0 := cell_of hx2 0 _ rfl
    have fy0 := frozen_of hx2 0
    have y1 := cell_of hx2 1 _ rfl
    have fy1 := frozen_of hx2 1
    clear hx2
    go_wp2
    have k2 := set2 HX2.out (.string x.1) (.int .i64 x.2)
    have g0 := cell_of k2 0 _ rfl
    have g1 := cell_of k2 1 _ rfl
    refine bodyPost_ret (v := .tuple #[.agg #[.string x.1, .int .i64 x.2], .bool true]) (by simp [results, Try.results45, go_sem, g0, g1]) rfl ⟨rfl, ?_⟩
    exact (c1.setCell (by simp) _).setCell (by simp) _
  · have HSE := Lib.hid (fun (w' : World) (h : AtL w' 2 isc a xs) => iss_search a c xs t J false w' hn h hJ h1 h2 (by
      rcases Nat.lt_or_ge J xs.length with g | g
      · rw [decide_eq_true g, Bool.true_and]
        exact (beq_eq_false_iff_ne.2 (hno g)).symm
      · rw [decide_eq_false (by omega)]
        rfl))
    clear h1 h2 hno
    rw [show oi xs none = i0 from rfl, show (none : Option Nat).isSome = false from rfl]
    go_enter Try.func45, Try.ntmps45
    go_wp2_with fail
    generalize (w.alloc _).alloc _ = wo at hbo HX ⊢
    refine (HSE.out wo (HA.out.below hbo)).mono ?_
    rintro e w1 ⟨rfl, hb1⟩
    have c1 := bt hbo hb1 (Nat.le_refl _)
    have hx2 := blk_keep HX.out.2 hb1
    have HX2 := Lib.hid hx2
    clear HSE hbo hb1
    have hs1 := blk_lt hx2
    have y0 := cell_of hx2 0 _ rfl
    have fy0 := frozen_of hx2 0
    have y1 := cell_of hx2 1 _ rfl
    have fy1 := frozen_of hx2 1
    clear hx2
    go_wp2
    have k2 := set2 HX2.out (.string ⟨#[]⟩) (.int .i64 0)
    have g0 := cell_of k2 0 _ rfl
    have g1 := cell_of k2 1 _ rfl
    refine bodyPost_ret (v := .tuple #[.agg #[.string ⟨#[]⟩, .int .i64 0], .bool false]) (by simp [results, Try.results45, go_sem, g0, g1]) rfl ⟨rfl, ?_⟩
    exact (c1.setCell (by simp) _).setCell (by simp) _

set_option maxRecDepth 100000 in
set_option maxHeartbeats 1000000 in
theorem asset_any (a b : Option Addr) (c d n : Nat) (xs : List (As)) (t : ByteArray) (r : Option Nat) (w : World) (hn : xs.length ≤ 1000) (hA : AtL w 6 asc a xs) (hs : Sorted xs.length fun i => (ga xs i).nm) (hF : Found xs.length (fun i => (ga xs i).nm) t r) :
    Calls Try.prog 48 #[.agg #[.slice a xs.length c, .slice b n d], .string t] w fun e w' => e = .returned (.tuple #[.agg #[.string (oa xs r).nm, .string (oa xs r).iss, .int .i64 (oa xs r).pr, .int .i64 (oa xs r).hc, .int .i64 (oa xs r).mo, .bool (oa xs r).el], .bool r.isSome]) ∧ Below w.heap.size w w' := by
  obtain ⟨J, hJ, h1, h2, hc⟩ := found_place hs hF
  have HA := Lib.hid hA
  have hbo : Below w.heap.size w ((w.alloc (.cells #[.slice a xs.length c, .slice b n d] 25)).alloc (.cells #[.string ⟨#[]⟩, .string ⟨#[]⟩, .int .i64 0, .int .i64 0, .int .i64 0, .bool false] 48)) := ((Below.refl _ _).alloc (Nat.le_refl _) _).alloc (by simp) _
  have HX := Lib.hid (blk_two w (.cells #[.slice a xs.length c, .slice b n d] 25) (.cells #[.string ⟨#[]⟩, .string ⟨#[]⟩, .int .i64 0, .int .i64 0, .int .i64 0, .bool false] 48))
  clear hA hs hF
  rcases hc with ⟨i, rfl, rfl, hJn, hz⟩ | ⟨rfl, hno⟩
  · have HSE := Lib.hid (fun (w' : World) (h : AtL w' 6 asc a xs) => ass_search a c xs t i true w' hn h hJ h1 h2 (by rw [decide_eq_true hJn, hz]; rfl))
    clear h1 h2 hz
    have hi : (i : Int) < xs.length := by omega
    obtain ⟨lb, lo, rfl, _⟩ := at_as HA.out i hJn
    have HQ := Lib.hid (fun (w' : World) (h : Below w.heap.size w w') => at_as' (HA.out.below h) i hJn)
    rw [show oa xs (some i) = xs.getD i a0 from rfl, show (some i).isSome = true from rfl]
    generalize xs.getD i a0 = x at HQ ⊢
    go_enter Try.func48, Try.ntmps48
    go_wp2_with fail
    generalize (w.alloc _).alloc _ = wo at hbo HX ⊢
    refine (HSE.out wo (HA.out.below hbo)).mono ?_
    rintro e w1 ⟨rfl, hb1⟩
    have c1 := bt hbo hb1 (Nat.le_refl _)
    have hx1 := blk_keep HX.out.1 hb1
    have hx2 := blk_keep HX.out.2 hb1
    have x0 := cell_of hx1 0 _ rfl
    have x1 := cell_of hx1 1 _ rfl
    obtain ⟨q0, q1, q2, q3, q4, q5⟩ := HQ.out w1 c1
    have HX2 := Lib.hid hx2
    clear HSE hbo hb1 hx1 HQ
    have hs1 := blk_lt hx2
    have y0 := cell_of hx2 0 _ rfl
    have fy0 := frozen_of hx2 0
    have y1 := cell_of hx2 1 _ rfl
    have fy1 := frozen_of hx2 1
    have y2 := cell_of hx2 2 _ rfl
    have fy2 := frozen_of hx2 2
    have y3 := cell_of hx2 3 _ rfl
    have fy3 := frozen_of hx2 3
    have y4 := cell_of hx2 4 _ rfl
    have fy4 := frozen_of hx2 4
    have y5 := cell_of hx2 5 _ rfl
    have fy5 := frozen_of hx2 5
    clear hx2
    go_wp2
    have k2 := set6 HX2.out (.string x.nm) (.string x.iss) (.int .i64 x.pr) (.int .i64 x.hc) (.int .i64 x.mo) (.bool x.el)
    have g0 := cell_of k2 0 _ rfl
    have g1 := cell_of k2 1 _ rfl
    have g2 := cell_of k2 2 _ rfl
    have g3 := cell_of k2 3 _ rfl
    have g4 := cell_of k2 4 _ rfl
    have g5 := cell_of k2 5 _ rfl
    refine bodyPost_ret (v := .tuple #[.agg #[.string x.nm, .string x.iss, .int .i64 x.pr, .int .i64 x.hc, .int .i64 x.mo, .bool x.el], .bool true]) (by simp [results, Try.results48, go_sem, g0, g1, g2, g3, g4, g5]) rfl ⟨rfl, ?_⟩
    exact (((((c1.setCell (by simp) _).setCell (by simp) _).setCell (by simp) _).setCell (by simp) _).setCell (by simp) _).setCell (by simp) _
  · have HSE := Lib.hid (fun (w' : World) (h : AtL w' 6 asc a xs) => ass_search a c xs t J false w' hn h hJ h1 h2 (by
      rcases Nat.lt_or_ge J xs.length with g | g
      · rw [decide_eq_true g, Bool.true_and]
        exact (beq_eq_false_iff_ne.2 (hno g)).symm
      · rw [decide_eq_false (by omega)]
        rfl))
    clear h1 h2 hno
    rw [show oa xs none = a0 from rfl, show (none : Option Nat).isSome = false from rfl]
    go_enter Try.func48, Try.ntmps48
    go_wp2_with fail
    generalize (w.alloc _).alloc _ = wo at hbo HX ⊢
    refine (HSE.out wo (HA.out.below hbo)).mono ?_
    rintro e w1 ⟨rfl, hb1⟩
    have c1 := bt hbo hb1 (Nat.le_refl _)
    have hx2 := blk_keep HX.out.2 hb1
    have HX2 := Lib.hid hx2
    clear HSE hbo hb1
    have hs1 := blk_lt hx2
    have y0 := cell_of hx2 0 _ rfl
    have fy0 := frozen_of hx2 0
    have y1 := cell_of hx2 1 _ rfl
    have fy1 := frozen_of hx2 1
    have y2 := cell_of hx2 2 _ rfl
    have fy2 := frozen_of hx2 2
    have y3 := cell_of hx2 3 _ rfl
    have fy3 := frozen_of hx2 3
    have y4 := cell_of hx2 4 _ rfl
    have fy4 := frozen_of hx2 4
    have y5 := cell_of hx2 5 _ rfl
    have fy5 := frozen_of hx2 5
    clear hx2
    go_wp2
    have k2 := set6 HX2.out (.string ⟨#[]⟩) (.string ⟨#[]⟩) (.int .i64 0) (.int .i64 0) (.int .i64 0) (.bool false)
    have g0 := cell_of k2 0 _ rfl
    have g1 := cell_of k2 1 _ rfl
    have g2 := cell_of k2 2 _ rfl
    have g3 := cell_of k2 3 _ rfl
    have g4 := cell_of k2 4 _ rfl
    have g5 := cell_of k2 5 _ rfl
    refine bodyPost_ret (v := .tuple #[.agg #[.string ⟨#[]⟩, .string ⟨#[]⟩, .int .i64 0, .int .i64 0, .int .i64 0, .bool false], .bool false]) (by simp [results, Try.results48, go_sem, g0, g1, g2, g3, g4, g5]) rfl ⟨rfl, ?_⟩
    exact (((((c1.setCell (by simp) _).setCell (by simp) _).setCell (by simp) _).setCell (by simp) _).setCell (by simp) _).setCell (by simp) _

set_option maxRecDepth 100000 in
set_option maxHeartbeats 1000000 in
theorem find_any (a : Option Addr) (c : Nat) (xs : List (ByteArray × Int)) (t : ByteArray) (J : Nat) (F : Bool) (w : World) (hn : xs.length ≤ 1000) (hA : AtL w 2 isc a xs) (hJ : J ≤ xs.length)
    (h1 : ∀ i, i < J → lt (gi xs i).1 t = true) (h2 : ∀ i, J ≤ i → i < xs.length → lt (gi xs i).1 t = false) (hF : F = (decide (J < xs.length) && (cmpS (gi xs J).1 t == 0))) :
    Calls Try.prog 40 #[.slice a xs.length c, .string t] w fun e w' => e = .returned (.tuple #[.int .i64 J, .bool F]) ∧ Below w.heap.size w w' := by
  have HSE := Lib.hid (hol_search a c xs t J F w hn hA hJ h1 h2 hF)
  clear hA h1 h2 hF
  go_enter Try.func40, Try.ntmps40
  go_wp2_with fail
  refine Calls.mono HSE.out ?_
  rintro e w1 ⟨rfl, hb1⟩
  go_wp2
  go_ret2
  exact ⟨rfl, hb1⟩

end Go.Proofs.Ytbfgnkakcnhojaa.Co
