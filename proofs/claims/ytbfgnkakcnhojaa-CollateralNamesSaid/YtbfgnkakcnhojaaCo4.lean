/-
  Collateral: the linear look-ups of the reference and of the law; money, units, reduced.
-/
import Derived.Test.YtbfgnkakcnhojaaCo3
namespace Go.Proofs.Ytbfgnkakcnhojaa.Co
open Go.RowKit Go.Proofs.Ytbfgnkakcnhojaa Go.Proofs.Ytbfgnkakcnhojaa.Ls Go.Proofs.Ytbfgnkakcnhojaa.Kb
open Go.Proofs.Ytbfgnkakcnhojaa.Nm hiding ret_bool ret_int

/-- the first one of this name -/
def First (n : Nat) (f : Nat → ByteArray) (t : ByteArray) (r : Option Nat) : Prop := (∃ i, r = some i ∧ i < n ∧ f i = t ∧ ∀ j, j < i → f j ≠ t) ∨ (r = none ∧ ∀ i, i < n → f i ≠ t)
theorem First.found {n : Nat} {f : Nat → ByteArray} {t : ByteArray} {r : Option Nat} (h : First n f t r) : Found n f t r := by
  rcases h with ⟨i, h1, h2, h3, _⟩ | ⟨h1, h2⟩
  · exact .inl ⟨i, h1, h2, h3⟩
  · exact .inr ⟨h1, h2⟩
theorem first_exists (n : Nat) (f : Nat → ByteArray) (t : ByteArray) : ∃ r, First n f t r := by
  induction n with
  | zero => exact ⟨none, .inr ⟨rfl, fun i hi => by omega⟩⟩
  | succ n ih =>
    obtain ⟨r, ⟨i, h1, h2, h3⟩ | ⟨h1, h2⟩⟩ := ih
    · exact ⟨r, .inl ⟨i, h1, by omega, h3⟩⟩
    · by_cases e : f n = t
      · exact ⟨some n, .inl ⟨n, rfl, by omega, e, fun j hj => h2 j hj⟩⟩
      · exact ⟨none, .inr ⟨rfl, fun i hi => by
          rcases Nat.lt_or_ge i n with g | g
          · exact h2 i g
          · obtain rfl : i = n := by omega
            exact e⟩⟩
theorem eq_yes {a b : ByteArray} (h : a = b) : (a.toList == b.toList) = true := by rw [h]; simp
theorem eq_no {a b : ByteArray} (h : a ≠ b) : (a.toList == b.toList) = false := by
  rw [beq_eq_false_iff_ne]
  exact fun e => h (str_ext e)

theorem between (x a b : Int) : (decide (a ≤ x) && decide (x ≤ b)) = decide (a ≤ x ∧ x ≤ b) := by
  rw [Bool.eq_iff_iff]
  simp

theorem money_any (x : Int) (b : Bool) (w : World) (h : decide (0 ≤ x ∧ x ≤ 1125899906842624) = b) :
    Calls Try.prog 41 #[.int .i64 x] w fun e w' => e = .returned (.bool b) ∧ w' = w := by
  subst h
  rw [← between]
  by_cases h1 : (0 : Int) ≤ x
  · have HE := Lib.hid (show decide ((0 : Int) ≤ x) = true from decide_eq_true h1)
    go_enter Try.func41, Try.ntmps41
    go_wp2
    go_ret
    exact ⟨ret_bool (by rw [HE.out, Bool.true_and]), rfl⟩
  · have HE := Lib.hid (show decide ((0 : Int) ≤ x) = false from decide_eq_false h1)
    go_enter Try.func41, Try.ntmps41
    go_wp2
    go_ret
    exact ⟨ret_bool (by rw [HE.out, Bool.false_and]), rfl⟩

theorem units_any (x : Int) (b : Bool) (w : World) (h : decide (1 ≤ x ∧ x ≤ 1048576) = b) :
    Calls Try.prog 53 #[.int .i64 x] w fun e w' => e = .returned (.bool b) ∧ w' = w := by
  subst h
  rw [← between]
  by_cases h1 : (1 : Int) ≤ x
  · have HE := Lib.hid (show decide ((1 : Int) ≤ x) = true from decide_eq_true h1)
    go_enter Try.func53, Try.ntmps53
    go_wp2
    go_ret
    exact ⟨ret_bool (by rw [HE.out, Bool.true_and]), rfl⟩
  · have HE := Lib.hid (show decide ((1 : Int) ≤ x) = false from decide_eq_false h1)
    go_enter Try.func53, Try.ntmps53
    go_wp2
    go_ret
    exact ⟨ret_bool (by rw [HE.out, Bool.false_and]), rfl⟩

theorem rmoney_any (x : Int) (b : Bool) (w : World) (h : decide (0 ≤ x ∧ x ≤ 1125899906842624) = b) :
    Calls Try.prog 43 #[.int .i64 x] w fun e w' => e = .returned (.bool b) ∧ w' = w := by
  subst h
  rw [← between]
  by_cases h1 : (0 : Int) ≤ x
  · have HE := Lib.hid (show decide ((0 : Int) ≤ x) = true from decide_eq_true h1)
    go_enter Try.func43, Try.ntmps43
    go_wp2
    go_ret
    exact ⟨ret_bool (by rw [HE.out, Bool.true_and]), rfl⟩
  · have HE := Lib.hid (show decide ((0 : Int) ≤ x) = false from decide_eq_false h1)
    go_enter Try.func43, Try.ntmps43
    go_wp2
    go_ret
    exact ⟨ret_bool (by rw [HE.out, Bool.false_and]), rfl⟩

set_option maxRecDepth 100000 in
set_option maxHeartbeats 1000000 in
theorem rissuer_any (a b : Option Addr) (c d n : Nat) (xs : List (ByteArray × Int)) (t : ByteArray) (r : Option Nat) (w : World) (hn : xs.length ≤ 1000) (hA : AtL w 2 isc a xs) (hF : First xs.length (fun i => (gi xs i).1) t r) :
    Calls Try.prog 37 #[.agg #[.slice b n d, .slice a xs.length c], .string t] w fun e w' => e = .returned (.tuple #[.agg #[.string (oi xs r).1, .int .i64 (oi xs r).2], .bool r.isSome]) ∧ Below w.heap.size w w' := by
  have HA := Lib.hid hA
  have hbo : Below w.heap.size w ((w.alloc (.cells #[.slice b n d, .slice a xs.length c] 25)).alloc (.cells #[.string ⟨#[]⟩, .int .i64 0] 50)) := ((Below.refl _ _).alloc (Nat.le_refl _) _).alloc (by simp) _
  have HX := Lib.hid (blk_two w (.cells #[.slice b n d, .slice a xs.length c] 25) (.cells #[.string ⟨#[]⟩, .int .i64 0] 50))
  have HS := Lib.hid (show (∃ i, r = some i ∧ i < xs.length ∧ (gi xs i).1 = t ∧ ∀ j, j < i → (gi xs j).1 ≠ t) ∨ (r = none ∧ ∀ i, i < xs.length → (gi xs i).1 ≠ t) from hF)
  clear hA hF
  have HO1 : Hid (∀ i, oi xs (some i) = gi xs i) := fun _ => rfl
  have HO2 : Hid (oi xs none = i0) := rfl
  obtain ⟨Y, hY⟩ : ∃ Y, Y = oi xs r := ⟨_, rfl⟩
  rw [← hY]
  have HY := Lib.hid hY
  clear hY
  obtain ⟨B, hB⟩ : ∃ B, B = r.isSome := ⟨_, rfl⟩
  rw [← hB]
  have HBB := Lib.hid hB
  clear hB
  go_enter Try.func37, Try.ntmps37
  go_wp2_with fail
  generalize (w.alloc _).alloc _ = wo at hbo HX ⊢
  have hs1 := blk_lt HX.out.2
  have x0 := cell_of HX.out.1 0 _ rfl
  have x1 := cell_of HX.out.1 1 _ rfl
  have y0 := cell_of HX.out.2 0 _ rfl
  have fy0 := frozen_of HX.out.2 0
  have y1 := cell_of HX.out.2 1 _ rfl
  have fy1 := frozen_of HX.out.2 1
  go_loop [6] (fun i => ∃ k : Nat, k ≤ xs.length ∧ i = .int .i64 k ∧ Hid (∀ j, j < k → (gi xs j).1 ≠ t)) (fun i => xs.length - (intOf i).toNat)
  case atStart => exact ⟨0, by omega, rfl, fun j hj => by omega⟩
  case round =>
    obtain ⟨k, hk, rfl, HN⟩ := hrel
    rcases Nat.lt_or_ge k xs.length with g | g
    · have hki : (k : Int) < xs.length := by omega
      obtain ⟨lb, lo, rfl, q0, q1⟩ := at_is (HA.out.below hbo) k g
      have HG : Hid (xs.getD k i0 = gi xs k) := rfl
      rw [HG.out] at q0 q1
      clear HG
      by_cases he : (gi xs k).1 = t
      · have hr : r = some k := by
          rcases HS.out with ⟨i, hi1, hi2, hi3, hi4⟩ | ⟨hi1, hi2⟩
          · rcases Nat.lt_trichotomy i k with h | h | h
            · exact absurd hi3 (HN.out i h)
            · rw [hi1, h]
            · exact absurd he (hi4 k h)
          · exact absurd he (hi2 k g)
        have hYk : Y = gi xs k := by rw [HY.out, hr, HO1.out]
        have hBk : B = true := by rw [HBB.out, hr]; rfl
        rw [← hYk] at q0 q1 he
        subst hBk
        have heq := eq_yes he
        clear hr hYk he HN HS
        go_wp2
        have k2 := set2 HX.out.2 (.string Y.1) (.int .i64 Y.2)
        have g0 := cell_of k2 0 _ rfl
        have g1 := cell_of k2 1 _ rfl
        refine bodyPost_ret (v := .tuple #[.agg #[.string Y.1, .int .i64 Y.2], .bool true]) (by simp [results, Try.results37, go_sem, g0, g1]) rfl ⟨rfl, ?_⟩
        exact (hbo.setCell (by simp) _).setCell (by simp) _
      · have heq := eq_no he
        have HN2 : Hid (∀ j, j < k + 1 → (gi xs j).1 ≠ t) := fun j hj => by
          rcases Nat.lt_or_ge j k with h | h
          · exact HN.out j h
          · obtain rfl : j = k := by omega
            exact he
        clear he HN
        generalize gi xs k = x at *
        go_wp2
        go_round
        case rel => exact ⟨k + 1, by omega, by go_num, HN2⟩
        case measure => simp [intOf]; omega
    · obtain rfl : k = xs.length := by omega
      have hr : r = none := by
        rcases HS.out with ⟨i, hi1, hi2, hi3, hi4⟩ | ⟨hi1, hi2⟩
        · exact absurd hi3 (HN.out i hi2)
        · exact hi1
      have hYk : Y = i0 := by rw [HY.out, hr, HO2.out]
      have hBk : B = false := by rw [HBB.out, hr]; rfl
      subst hYk
      subst hBk
      clear hr HN HS
      go_wp2
      have k2 := set2 HX.out.2 (.string ⟨#[]⟩) (.int .i64 0)
      have g0 := cell_of k2 0 _ rfl
      have g1 := cell_of k2 1 _ rfl
      refine bodyPost_ret (v := .tuple #[.agg #[.string ⟨#[]⟩, .int .i64 0], .bool false]) (by simp [results, Try.results37, go_sem, g0, g1]) rfl ⟨rfl, ?_⟩
      exact (hbo.setCell (by simp) _).setCell (by simp) _

set_option maxRecDepth 100000 in
set_option maxHeartbeats 1000000 in
theorem rasset_any (a b : Option Addr) (c d n : Nat) (xs : List (As)) (t : ByteArray) (r : Option Nat) (w : World) (hn : xs.length ≤ 1000) (hA : AtL w 6 asc a xs) (hF : First xs.length (fun i => (ga xs i).nm) t r) :
    Calls Try.prog 36 #[.agg #[.slice a xs.length c, .slice b n d], .string t] w fun e w' => e = .returned (.tuple #[.agg #[.string (oa xs r).nm, .string (oa xs r).iss, .int .i64 (oa xs r).pr, .int .i64 (oa xs r).hc, .int .i64 (oa xs r).mo, .bool (oa xs r).el], .bool r.isSome]) ∧ Below w.heap.size w w' := by
  have HA := Lib.hid hA
  have hbo : Below w.heap.size w ((w.alloc (.cells #[.slice a xs.length c, .slice b n d] 25)).alloc (.cells #[.string ⟨#[]⟩, .string ⟨#[]⟩, .int .i64 0, .int .i64 0, .int .i64 0, .bool false] 48)) := ((Below.refl _ _).alloc (Nat.le_refl _) _).alloc (by simp) _
  have HX := Lib.hid (blk_two w (.cells #[.slice a xs.length c, .slice b n d] 25) (.cells #[.string ⟨#[]⟩, .string ⟨#[]⟩, .int .i64 0, .int .i64 0, .int .i64 0, .bool false] 48))
  have HS := Lib.hid (show (∃ i, r = some i ∧ i < xs.length ∧ (ga xs i).nm = t ∧ ∀ j, j < i → (ga xs j).nm ≠ t) ∨ (r = none ∧ ∀ i, i < xs.length → (ga xs i).nm ≠ t) from hF)
  clear hA hF
  have HO1 : Hid (∀ i, oa xs (some i) = ga xs i) := fun _ => rfl
  have HO2 : Hid (oa xs none = a0) := rfl
  obtain ⟨Y, hY⟩ : ∃ Y, Y = oa xs r := ⟨_, rfl⟩
  rw [← hY]
  have HY := Lib.hid hY
  clear hY
  obtain ⟨B, hB⟩ : ∃ B, B = r.isSome := ⟨_, rfl⟩
  rw [← hB]
  have HBB := Lib.hid hB
  clear hB
  go_enter Try.func36, Try.ntmps36
  go_wp2_with fail
  generalize (w.alloc _).alloc _ = wo at hbo HX ⊢
  have hs1 := blk_lt HX.out.2
  have x0 := cell_of HX.out.1 0 _ rfl
  have x1 := cell_of HX.out.1 1 _ rfl
  have y0 := cell_of HX.out.2 0 _ rfl
  have fy0 := frozen_of HX.out.2 0
  have y1 := cell_of HX.out.2 1 _ rfl
  have fy1 := frozen_of HX.out.2 1
  have y2 := cell_of HX.out.2 2 _ rfl
  have fy2 := frozen_of HX.out.2 2
  have y3 := cell_of HX.out.2 3 _ rfl
  have fy3 := frozen_of HX.out.2 3
  have y4 := cell_of HX.out.2 4 _ rfl
  have fy4 := frozen_of HX.out.2 4
  have y5 := cell_of HX.out.2 5 _ rfl
  have fy5 := frozen_of HX.out.2 5
  go_loop [6] (fun i => ∃ k : Nat, k ≤ xs.length ∧ i = .int .i64 k ∧ Hid (∀ j, j < k → (ga xs j).nm ≠ t)) (fun i => xs.length - (intOf i).toNat)
  case atStart => exact ⟨0, by omega, rfl, fun j hj => by omega⟩
  case round =>
    obtain ⟨k, hk, rfl, HN⟩ := hrel
    rcases Nat.lt_or_ge k xs.length with g | g
    · have hki : (k : Int) < xs.length := by omega
      obtain ⟨lb, lo, rfl, q0, q1, q2, q3, q4, q5⟩ := at_as (HA.out.below hbo) k g
      have HG : Hid (xs.getD k a0 = ga xs k) := rfl
      rw [HG.out] at q0 q1 q2 q3 q4 q5
      clear HG
      by_cases he : (ga xs k).nm = t
      · have hr : r = some k := by
          rcases HS.out with ⟨i, hi1, hi2, hi3, hi4⟩ | ⟨hi1, hi2⟩
          · rcases Nat.lt_trichotomy i k with h | h | h
            · exact absurd hi3 (HN.out i h)
            · rw [hi1, h]
            · exact absurd he (hi4 k h)
          · exact absurd he (hi2 k g)
        have hYk : Y = ga xs k := by rw [HY.out, hr, HO1.out]
        have hBk : B = true := by rw [HBB.out, hr]; rfl
        rw [← hYk] at q0 q1 q2 q3 q4 q5 he
        subst hBk
        have heq := eq_yes he
        clear hr hYk he HN HS
        go_wp2
        have k2 := set6 HX.out.2 (.string Y.nm) (.string Y.iss) (.int .i64 Y.pr) (.int .i64 Y.hc) (.int .i64 Y.mo) (.bool Y.el)
        have g0 := cell_of k2 0 _ rfl
        have g1 := cell_of k2 1 _ rfl
        have g2 := cell_of k2 2 _ rfl
        have g3 := cell_of k2 3 _ rfl
        have g4 := cell_of k2 4 _ rfl
        have g5 := cell_of k2 5 _ rfl
        refine bodyPost_ret (v := .tuple #[.agg #[.string Y.nm, .string Y.iss, .int .i64 Y.pr, .int .i64 Y.hc, .int .i64 Y.mo, .bool Y.el], .bool true]) (by simp [results, Try.results36, go_sem, g0, g1, g2, g3, g4, g5]) rfl ⟨rfl, ?_⟩
        exact (((((hbo.setCell (by simp) _).setCell (by simp) _).setCell (by simp) _).setCell (by simp) _).setCell (by simp) _).setCell (by simp) _
      · have heq := eq_no he
        have HN2 : Hid (∀ j, j < k + 1 → (ga xs j).nm ≠ t) := fun j hj => by
          rcases Nat.lt_or_ge j k with h | h
          · exact HN.out j h
          · obtain rfl : j = k := by omega
            exact he
        clear he HN
        generalize ga xs k = x at *
        go_wp2
        go_round
        case rel => exact ⟨k + 1, by omega, by go_num, HN2⟩
        case measure => simp [intOf]; omega
    · obtain rfl : k = xs.length := by omega
      have hr : r = none := by
        rcases HS.out with ⟨i, hi1, hi2, hi3, hi4⟩ | ⟨hi1, hi2⟩
        · exact absurd hi3 (HN.out i hi2)
        · exact hi1
      have hYk : Y = a0 := by rw [HY.out, hr, HO2.out]
      have hBk : B = false := by rw [HBB.out, hr]; rfl
      subst hYk
      subst hBk
      clear hr HN HS
      go_wp2
      have k2 := set6 HX.out.2 (.string ⟨#[]⟩) (.string ⟨#[]⟩) (.int .i64 0) (.int .i64 0) (.int .i64 0) (.bool false)
      have g0 := cell_of k2 0 _ rfl
      have g1 := cell_of k2 1 _ rfl
      have g2 := cell_of k2 2 _ rfl
      have g3 := cell_of k2 3 _ rfl
      have g4 := cell_of k2 4 _ rfl
      have g5 := cell_of k2 5 _ rfl
      refine bodyPost_ret (v := .tuple #[.agg #[.string ⟨#[]⟩, .string ⟨#[]⟩, .int .i64 0, .int .i64 0, .int .i64 0, .bool false], .bool false]) (by simp [results, Try.results36, go_sem, g0, g1, g2, g3, g4, g5]) rfl ⟨rfl, ?_⟩
      exact (((((hbo.setCell (by simp) _).setCell (by simp) _).setCell (by simp) _).setCell (by simp) _).setCell (by simp) _).setCell (by simp) _

set_option maxRecDepth 100000 in
set_option maxHeartbeats 1000000 in
theorem lfound_any (a b : Option Addr) (c d n : Nat) (xs : List (As)) (t : ByteArray) (r : Option Nat) (w : World) (hn : xs.length ≤ 1000) (hA : AtL w 6 asc a xs) (hF : First xs.length (fun i => (ga xs i).nm) t r) :
    Calls Try.prog 28 #[.agg #[.slice a xs.length c, .slice b n d], .string t] w fun e w' => e = .returned (.tuple #[.agg #[.string (oa xs r).nm, .string (oa xs r).iss, .int .i64 (oa xs r).pr, .int .i64 (oa xs r).hc, .int .i64 (oa xs r).mo, .bool (oa xs r).el], .bool r.isSome]) ∧ Below w.heap.size w w' := by
  have HA := Lib.hid hA
  have hbo : Below w.heap.size w ((w.alloc (.cells #[.slice a xs.length c, .slice b n d] 25)).alloc (.cells #[.string ⟨#[]⟩, .string ⟨#[]⟩, .int .i64 0, .int .i64 0, .int .i64 0, .bool false] 48)) := ((Below.refl _ _).alloc (Nat.le_refl _) _).alloc (by simp) _
  have HX := Lib.hid (blk_two w (.cells #[.slice a xs.length c, .slice b n d] 25) (.cells #[.string ⟨#[]⟩, .string ⟨#[]⟩, .int .i64 0, .int .i64 0, .int .i64 0, .bool false] 48))
  have HS := Lib.hid (show (∃ i, r = some i ∧ i < xs.length ∧ (ga xs i).nm = t ∧ ∀ j, j < i → (ga xs j).nm ≠ t) ∨ (r = none ∧ ∀ i, i < xs.length → (ga xs i).nm ≠ t) from hF)
  clear hA hF
  have HO1 : Hid (∀ i, oa xs (some i) = ga xs i) := fun _ => rfl
  have HO2 : Hid (oa xs none = a0) := rfl
  obtain ⟨Y, hY⟩ : ∃ Y, Y = oa xs r := ⟨_, rfl⟩
  rw [← hY]
  have HY := Lib.hid hY
  clear hY
  obtain ⟨B, hB⟩ : ∃ B, B = r.isSome := ⟨_, rfl⟩
  rw [← hB]
  have HBB := Lib.hid hB
  clear hB
  go_enter Try.func28, Try.ntmps28
  go_wp2_with fail
  generalize (w.alloc _).alloc _ = wo at hbo HX ⊢
  have hs1 := blk_lt HX.out.2
  have x0 := cell_of HX.out.1 0 _ rfl
  have x1 := cell_of HX.out.1 1 _ rfl
  have y0 := cell_of HX.out.2 0 _ rfl
  have fy0 := frozen_of HX.out.2 0
  have y1 := cell_of HX.out.2 1 _ rfl
  have fy1 := frozen_of HX.out.2 1
  have y2 := cell_of HX.out.2 2 _ rfl
  have fy2 := frozen_of HX.out.2 2
  have y3 := cell_of HX.out.2 3 _ rfl
  have fy3 := frozen_of HX.out.2 3
  have y4 := cell_of HX.out.2 4 _ rfl
  have fy4 := frozen_of HX.out.2 4
  have y5 := cell_of HX.out.2 5 _ rfl
  have fy5 := frozen_of HX.out.2 5
  go_loop [6] (fun i => ∃ k : Nat, k ≤ xs.length ∧ i = .int .i64 k ∧ Hid (∀ j, j < k → (ga xs j).nm ≠ t)) (fun i => xs.length - (intOf i).toNat)
  case atStart => exact ⟨0, by omega, rfl, fun j hj => by omega⟩
  case round =>
    obtain ⟨k, hk, rfl, HN⟩ := hrel
    rcases Nat.lt_or_ge k xs.length with g | g
    · have hki : (k : Int) < xs.length := by omega
      obtain ⟨lb, lo, rfl, q0, q1, q2, q3, q4, q5⟩ := at_as (HA.out.below hbo) k g
      have HG : Hid (xs.getD k a0 = ga xs k) := rfl
      rw [HG.out] at q0 q1 q2 q3 q4 q5
      clear HG
      by_cases he : (ga xs k).nm = t
      · have hr : r = some k := by
          rcases HS.out with ⟨i, hi1, hi2, hi3, hi4⟩ | ⟨hi1, hi2⟩
          · rcases Nat.lt_trichotomy i k with h | h | h
            · exact absurd hi3 (HN.out i h)
            · rw [hi1, h]
            · exact absurd he (hi4 k h)
          · exact absurd he (hi2 k g)
        have hYk : Y = ga xs k := by rw [HY.out, hr, HO1.out]
        have hBk : B = true := by rw [HBB.out, hr]; rfl
        rw [← hYk] at q0 q1 q2 q3 q4 q5 he
        subst hBk
        have heq := eq_yes he
        clear hr hYk he HN HS
        go_wp2
        have k2 := set6 HX.out.2 (.string Y.nm) (.string Y.iss) (.int .i64 Y.pr) (.int .i64 Y.hc) (.int .i64 Y.mo) (.bool Y.el)
        have g0 := cell_of k2 0 _ rfl
        have g1 := cell_of k2 1 _ rfl
        have g2 := cell_of k2 2 _ rfl
        have g3 := cell_of k2 3 _ rfl
        have g4 := cell_of k2 4 _ rfl
        have g5 := cell_of k2 5 _ rfl
        refine bodyPost_ret (v := .tuple #[.agg #[.string Y.nm, .string Y.iss, .int .i64 Y.pr, .int .i64 Y.hc, .int .i64 Y.mo, .bool Y.el], .bool true]) (by simp [results, Try.results28, go_sem, g0, g1, g2, g3, g4, g5]) rfl ⟨rfl, ?_⟩
        exact (((((hbo.setCell (by simp) _).setCell (by simp) _).setCell (by simp) _).setCell (by simp) _).setCell (by simp) _).setCell (by simp) _
      · have heq := eq_no he
        have HN2 : Hid (∀ j, j < k + 1 → (ga xs j).nm ≠ t) := fun j hj => by
          rcases Nat.lt_or_ge j k with h | h
          · exact HN.out j h
          · obtain rfl : j = k := by omega
            exact he
        clear he HN
        generalize ga xs k = x at *
        go_wp2
        go_round
        case rel => exact ⟨k + 1, by omega, by go_num, HN2⟩
        case measure => simp [intOf]; omega
    · obtain rfl : k = xs.length := by omega
      have hr : r = none := by
        rcases HS.out with ⟨i, hi1, hi2, hi3, hi4⟩ | ⟨hi1, hi2⟩
        · exact absurd hi3 (HN.out i hi2)
        · exact hi1
      have hYk : Y = a0 := by rw [HY.out, hr, HO2.out]
      have hBk : B = false := by rw [HBB.out, hr]; rfl
      subst hYk
      subst hBk
      clear hr HN HS
      go_wp2
      have k2 := set6 HX.out.2 (.string ⟨#[]⟩) (.string ⟨#[]⟩) (.int .i64 0) (.int .i64 0) (.int .i64 0) (.bool false)
      have g0 := cell_of k2 0 _ rfl
      have g1 := cell_of k2 1 _ rfl
      have g2 := cell_of k2 2 _ rfl
      have g3 := cell_of k2 3 _ rfl
      have g4 := cell_of k2 4 _ rfl
      have g5 := cell_of k2 5 _ rfl
      refine bodyPost_ret (v := .tuple #[.agg #[.string ⟨#[]⟩, .string ⟨#[]⟩, .int .i64 0, .int .i64 0, .int .i64 0, .bool false], .bool false]) (by simp [results, Try.results28, go_sem, g0, g1, g2, g3, g4, g5]) rfl ⟨rfl, ?_⟩
      exact (((((hbo.setCell (by simp) _).setCell (by simp) _).setCell (by simp) _).setCell (by simp) _).setCell (by simp) _).setCell (by simp) _

/-- the reduced value -/
def red (x : As) (n : Int) : Int := if x.el then n * x.pr * (1000 - x.hc) / 1000 else 0
/-- in range -/
def asR (x : As) : Prop := 0 ≤ x.pr ∧ x.pr ≤ 33554432 ∧ 0 ≤ x.hc ∧ x.hc ≤ 1000 ∧ 0 ≤ x.mo ∧ x.mo ≤ 1125899906842624
theorem mul_range {a b A B : Int} (h0 : 0 ≤ a) (h1 : a ≤ A) (k0 : 0 ≤ b) (k1 : b ≤ B) : 0 ≤ a * b ∧ a * b ≤ A * B := ⟨Int.mul_nonneg h0 k0, Int.mul_le_mul h1 k1 k0 (by omega)⟩
theorem prod_range {x : As} (h : asR x) {n : Int} (h0 : 0 ≤ n) (h1 : n ≤ 1048576) : (0 ≤ n * x.pr ∧ n * x.pr ≤ 35184372088832) ∧ (0 ≤ n * x.pr * (1000 - x.hc) ∧ n * x.pr * (1000 - x.hc) ≤ 35184372088832000) := by
  obtain ⟨p0, p1, q0, q1, _⟩ := h
  have a := mul_range h0 h1 p0 p1
  have a2 : 0 ≤ n * x.pr ∧ n * x.pr ≤ 35184372088832 := ⟨a.1, by have := a.2; omega⟩
  have b := mul_range a2.1 a2.2 (show 0 ≤ 1000 - x.hc by omega) (show 1000 - x.hc ≤ 1000 by omega)
  exact ⟨a2, b.1, by have := b.2; omega⟩

set_option maxRecDepth 100000 in
set_option maxHeartbeats 1000000 in
theorem reduced_any (x : As) (n : Int) (w : World) (hx : asR x) (h0 : 0 ≤ n) (h1 : n ≤ 1048576) :
    Calls Try.prog 38 #[.agg #[.string x.nm, .string x.iss, .int .i64 x.pr, .int .i64 x.hc, .int .i64 x.mo, .bool x.el], .int .i64 n] w fun e w' => e = .returned (.int .i64 (red x n)) ∧ Below w.heap.size w w' := by
  have hp := prod_range hx h0 h1
  obtain ⟨p0, p1, q0, q1, _⟩ := hx
  have HR := Lib.hid (show red x n = if x.el then n * x.pr * (1000 - x.hc) / 1000 else 0 from rfl)
  generalize red x n = R at HR ⊢
  obtain ⟨nm, iss, pr, hc, mo, el⟩ := x
  simp only at hp p0 p1 q0 q1 HR
  have hk := blk_new w (.cells #[.string nm, .string iss, .int .i64 pr, .int .i64 hc, .int .i64 mo, .bool el] 48)
  have hbo : Below w.heap.size w (w.alloc (.cells #[.string nm, .string iss, .int .i64 pr, .int .i64 hc, .int .i64 mo, .bool el] 48)) := (Below.refl _ _).alloc (Nat.le_refl _) _
  have w1 : IntKind.i64.wrap (n * pr) = n * pr := by rw [IntKind.wrap_i64]; omega
  have w2 : IntKind.i64.wrap (1000 - hc) = 1000 - hc := by rw [IntKind.wrap_i64]; omega
  have w3 : IntKind.i64.wrap (n * pr * (1000 - hc)) = n * pr * (1000 - hc) := by rw [IntKind.wrap_i64]; omega
  have w4 : (n * pr * (1000 - hc)).tdiv 1000 = n * pr * (1000 - hc) / 1000 := Int.tdiv_eq_ediv_of_nonneg hp.2.1
  have w5 : IntKind.i64.wrap (n * pr * (1000 - hc) / 1000) = n * pr * (1000 - hc) / 1000 := by rw [IntKind.wrap_i64]; omega
  go_enter Try.func38, Try.ntmps38
  go_upto_region 1 with fail
  generalize w.alloc _ = wo at hk hbo ⊢
  have x2 := cell_of hk 2 _ rfl
  have x3 := cell_of hk 3 _ rfl
  have x5 := cell_of hk 5 _ rfl
  cases el
  · go_wp2
    go_ret
    exact ⟨ret_int (by rw [HR.out]; rfl), hbo⟩
  · go_wp2
    go_ret
    exact ⟨ret_int (by rw [HR.out]; simp), hbo⟩

end Go.Proofs.Ytbfgnkakcnhojaa.Co
