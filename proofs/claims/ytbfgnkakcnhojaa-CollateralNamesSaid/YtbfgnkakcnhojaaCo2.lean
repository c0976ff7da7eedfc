/-
  Collateral: the walks of slices.BinarySearchFunc at issuers, assets and holdings.
-/
import Derived.Test.YtbfgnkakcnhojaaCo1
namespace Go.Proofs.Ytbfgnkakcnhojaa.Co
open Go.RowKit Go.Proofs.Ytbfgnkakcnhojaa Go.Proofs.Ytbfgnkakcnhojaa.Ls Go.Proofs.Ytbfgnkakcnhojaa.Kb
open Go.Proofs.Ytbfgnkakcnhojaa.Nm hiding ret_bool ret_int

/-- the closure that compares an element's name -/
theorem iss_cmp (x : ByteArray × Int) (t : ByteArray) (w : World) :
    Calls Try.prog 62 #[.agg #[.string x.1, .int .i64 x.2], .string t] w fun e w' => e = .returned (.int .i64 (cmpS x.1 t)) ∧ Below w.heap.size w w' := by
  go_enter Try.func62, Try.ntmps62
  go_wp2_with fail
  refine (compare_any _ _ _).mono ?_
  rintro e w' ⟨rfl, rfl⟩
  go_wp2
  go_ret
  exact ⟨rfl, (Below.refl _ _).alloc (Nat.le_refl _) _⟩

set_option maxRecDepth 100000 in
set_option maxHeartbeats 4000000 in
theorem iss_search (a : Option Addr) (cap : Nat) (xs : List (ByteArray × Int)) (t : ByteArray) (J : Nat) (F : Bool) (w : World) (hn : xs.length ≤ 1000) (hA : AtL w 2 isc a xs) (hJ : J ≤ xs.length)
    (h1 : ∀ i, i < J → lt (gi xs i).1 t = true) (h2 : ∀ i, J ≤ i → i < xs.length → lt (gi xs i).1 t = false) (hF : F = (decide (J < xs.length) && (cmpS (gi xs J).1 t == 0))) :
    Calls Try.prog 61 #[.slice a xs.length cap, .string t, .func (.func 62) #[] #[]] w fun e w' => e = .returned (.tuple #[.int .i64 J, .bool F]) ∧ Below w.heap.size w w' := by
  have HA := Lib.hid hA
  have H1 := Lib.hid h1
  have H2 := Lib.hid h2
  have HF := Lib.hid hF
  clear hA h1 h2 hF
  go_enter Try.func61, Try.ntmps61
  go_wp2_with fail
  go_loopw [9, 10, 11] (fun x y _ wr => ∃ i j : Nat, i ≤ J ∧ J ≤ j ∧ j ≤ xs.length ∧ x = .int .i64 i ∧ y = .int .i64 j ∧ Below w.heap.size w wr) (fun x y _ _ => (intOf y - intOf x).toNat)
  case atStart => exact ⟨0, xs.length, by omega, hJ, by omega, rfl, rfl, Below.refl _ _⟩
  case round =>
    obtain ⟨i, j, hi, hj, hjn, rfl, rfl, hbw⟩ := hrel
    by_cases hlt : i < j
    · obtain ⟨b, off, rfl, q0, q1⟩ := at_is (HA.out.below hbw) ((i + j) / 2) (by omega)
      have hx := cmpS_neg (gi xs ((i + j) / 2)).1 t
      have HG : Hid (xs.getD ((i + j) / 2) i0 = gi xs ((i + j) / 2)) := rfl
      rw [HG.out] at q0 q1
      by_cases hm : (i + j) / 2 < J
      · have hneg : cmpS (gi xs ((i + j) / 2)).1 t < 0 := hx.2 (H1.out _ hm)
        clear hx HG
        generalize gi xs ((i + j) / 2) = x at *
        go_wp2_with fail
        refine (iss_cmp x _ _).mono ?_
        rintro e w2 ⟨rfl, hb2⟩
        have hb3 : Below w.heap.size w w2 := bt hbw hb2 (Nat.le_refl _)
        go_wp2
        go_roundw
        case rel => exact ⟨(i + j) / 2 + 1, j, by omega, by omega, by omega, by go_num, rfl, hb3⟩
        case measure => simp [intOf]; omega
      · have hneg : ¬ cmpS (gi xs ((i + j) / 2)).1 t < 0 := fun g => by
          have := hx.1 g
          rw [H2.out _ (by omega) (by omega)] at this
          cases this
        clear hx HG
        generalize gi xs ((i + j) / 2) = x at *
        go_wp2_with fail
        refine (iss_cmp x _ _).mono ?_
        rintro e w2 ⟨rfl, hb2⟩
        have hb3 : Below w.heap.size w w2 := bt hbw hb2 (Nat.le_refl _)
        go_wp2
        go_roundw
        case rel => exact ⟨i, (i + j) / 2, by omega, by omega, by omega, rfl, by go_num, hb3⟩
        case measure => simp [intOf]; omega
    · obtain rfl : i = J := by omega
      by_cases hend : i < xs.length
      · have hd : decide (i < xs.length) = true := decide_eq_true hend
        have HF2 := Lib.hid (show F = (cmpS (gi xs i).1 t == 0) by rw [HF.out, hd]; rfl)
        obtain ⟨b, off, rfl, q0, q1⟩ := at_is (HA.out.below hbw) i hend
        have HG : Hid (xs.getD i i0 = gi xs i) := rfl
        rw [HG.out] at q0 q1
        clear HG
        generalize gi xs i = x at *
        go_wp2_with fail
        refine (iss_cmp x _ _).mono ?_
        rintro e w2 ⟨rfl, hb2⟩
        have hb3 : Below w.heap.size w w2 := bt hbw hb2 (Nat.le_refl _)
        go_wp2
        go_ret2
        exact ⟨by rw [HF2.out]; rfl, hb3⟩
      · have hd : decide (i < xs.length) = false := decide_eq_false hend
        have HF2 := Lib.hid (show F = false by rw [HF.out, hd]; rfl)
        go_wp2
        go_ret2
        exact ⟨by rw [HF2.out]; rfl, hbw⟩

/-- the closure that compares an element's name -/
theorem ass_cmp (x : As) (t : ByteArray) (w : World) :
    Calls Try.prog 64 #[.agg #[.string x.nm, .string x.iss, .int .i64 x.pr, .int .i64 x.hc, .int .i64 x.mo, .bool x.el], .string t] w fun e w' => e = .returned (.int .i64 (cmpS x.nm t)) ∧ Below w.heap.size w w' := by
  go_enter Try.func64, Try.ntmps64
  go_wp2_with fail
  refine (compare_any _ _ _).mono ?_
  rintro e w' ⟨rfl, rfl⟩
  go_wp2
  go_ret
  exact ⟨rfl, (Below.refl _ _).alloc (Nat.le_refl _) _⟩

set_option maxRecDepth 100000 in
set_option maxHeartbeats 4000000 in
theorem ass_search (a : Option Addr) (cap : Nat) (xs : List (As)) (t : ByteArray) (J : Nat) (F : Bool) (w : World) (hn : xs.length ≤ 1000) (hA : AtL w 6 asc a xs) (hJ : J ≤ xs.length)
    (h1 : ∀ i, i < J → lt (ga xs i).nm t = true) (h2 : ∀ i, J ≤ i → i < xs.length → lt (ga xs i).nm t = false) (hF : F = (decide (J < xs.length) && (cmpS (ga xs J).nm t == 0))) :
    Calls Try.prog 63 #[.slice a xs.length cap, .string t, .func (.func 64) #[] #[]] w fun e w' => e = .returned (.tuple #[.int .i64 J, .bool F]) ∧ Below w.heap.size w w' := by
  have HA := Lib.hid hA
  have H1 := Lib.hid h1
  have H2 := Lib.hid h2
  have HF := Lib.hid hF
  clear hA h1 h2 hF
  go_enter Try.func63, Try.ntmps63
  go_wp2_with fail
  go_loopw [9, 10, 11] (fun x y _ wr => ∃ i j : Nat, i ≤ J ∧ J ≤ j ∧ j ≤ xs.length ∧ x = .int .i64 i ∧ y = .int .i64 j ∧ Below w.heap.size w wr) (fun x y _ _ => (intOf y - intOf x).toNat)
  case atStart => exact ⟨0, xs.length, by omega, hJ, by omega, rfl, rfl, Below.refl _ _⟩
  case round =>
    obtain ⟨i, j, hi, hj, hjn, rfl, rfl, hbw⟩ := hrel
    by_cases hlt : i < j
    · obtain ⟨b, off, rfl, q0, q1, q2, q3, q4, q5⟩ := at_as (HA.out.below hbw) ((i + j) / 2) (by omega)
      have hx := cmpS_neg (ga xs ((i + j) / 2)).nm t
      have HG : Hid (xs.getD ((i + j) / 2) a0 = ga xs ((i + j) / 2)) := rfl
      rw [HG.out] at q0 q1 q2 q3 q4 q5
      by_cases hm : (i + j) / 2 < J
      · have hneg : cmpS (ga xs ((i + j) / 2)).nm t < 0 := hx.2 (H1.out _ hm)
        clear hx HG
        generalize ga xs ((i + j) / 2) = x at *
        go_wp2_with fail
        refine (ass_cmp x _ _).mono ?_
        rintro e w2 ⟨rfl, hb2⟩
        have hb3 : Below w.heap.size w w2 := bt hbw hb2 (Nat.le_refl _)
        go_wp2
        go_roundw
        case rel => exact ⟨(i + j) / 2 + 1, j, by omega, by omega, by omega, by go_num, rfl, hb3⟩
        case measure => simp [intOf]; omega
      · have hneg : ¬ cmpS (ga xs ((i + j) / 2)).nm t < 0 := fun g => by
          have := hx.1 g
          rw [H2.out _ (by omega) (by omega)] at this
          cases this
        clear hx HG
        generalize ga xs ((i + j) / 2) = x at *
        go_wp2_with fail
        refine (ass_cmp x _ _).mono ?_
        rintro e w2 ⟨rfl, hb2⟩
        have hb3 : Below w.heap.size w w2 := bt hbw hb2 (Nat.le_refl _)
        go_wp2
        go_roundw
        case rel => exact ⟨i, (i + j) / 2, by omega, by omega, by omega, rfl, by go_num, hb3⟩
        case measure => simp [intOf]; omega
    · obtain rfl : i = J := by omega
      by_cases hend : i < xs.length
      · have hd : decide (i < xs.length) = true := decide_eq_true hend
        have HF2 := Lib.hid (show F = (cmpS (ga xs i).nm t == 0) by rw [HF.out, hd]; rfl)
        obtain ⟨b, off, rfl, q0, q1, q2, q3, q4, q5⟩ := at_as (HA.out.below hbw) i hend
        have HG : Hid (xs.getD i a0 = ga xs i) := rfl
        rw [HG.out] at q0 q1 q2 q3 q4 q5
        clear HG
        generalize ga xs i = x at *
        go_wp2_with fail
        refine (ass_cmp x _ _).mono ?_
        rintro e w2 ⟨rfl, hb2⟩
        have hb3 : Below w.heap.size w w2 := bt hbw hb2 (Nat.le_refl _)
        go_wp2
        go_ret2
        exact ⟨by rw [HF2.out]; rfl, hb3⟩
      · have hd : decide (i < xs.length) = false := decide_eq_false hend
        have HF2 := Lib.hid (show F = false by rw [HF.out, hd]; rfl)
        go_wp2
        go_ret2
        exact ⟨by rw [HF2.out]; rfl, hbw⟩

/-- the closure that compares an element's name -/
theorem hol_cmp (x : ByteArray × Int) (t : ByteArray) (w : World) :
    Calls Try.prog 57 #[.agg #[.string x.1, .int .i64 x.2], .string t] w fun e w' => e = .returned (.int .i64 (cmpS x.1 t)) ∧ Below w.heap.size w w' := by
  go_enter Try.func57, Try.ntmps57
  go_wp2_with fail
  refine (compare_any _ _ _).mono ?_
  rintro e w' ⟨rfl, rfl⟩
  go_wp2
  go_ret
  exact ⟨rfl, (Below.refl _ _).alloc (Nat.le_refl _) _⟩

set_option maxRecDepth 100000 in
set_option maxHeartbeats 4000000 in
theorem hol_search (a : Option Addr) (cap : Nat) (xs : List (ByteArray × Int)) (t : ByteArray) (J : Nat) (F : Bool) (w : World) (hn : xs.length ≤ 1000) (hA : AtL w 2 isc a xs) (hJ : J ≤ xs.length)
    (h1 : ∀ i, i < J → lt (gi xs i).1 t = true) (h2 : ∀ i, J ≤ i → i < xs.length → lt (gi xs i).1 t = false) (hF : F = (decide (J < xs.length) && (cmpS (gi xs J).1 t == 0))) :
    Calls Try.prog 56 #[.slice a xs.length cap, .string t, .func (.func 57) #[] #[]] w fun e w' => e = .returned (.tuple #[.int .i64 J, .bool F]) ∧ Below w.heap.size w w' := by
  have HA := Lib.hid hA
  have H1 := Lib.hid h1
  have H2 := Lib.hid h2
  have HF := Lib.hid hF
  clear hA h1 h2 hF
  go_enter Try.func56, Try.ntmps56
  go_wp2_with fail
  go_loopw [9, 10, 11] (fun x y _ wr => ∃ i j : Nat, i ≤ J ∧ J ≤ j ∧ j ≤ xs.length ∧ x = .int .i64 i ∧ y = .int .i64 j ∧ Below w.heap.size w wr) (fun x y _ _ => (intOf y - intOf x).toNat)
  case atStart => exact ⟨0, xs.length, by omega, hJ, by omega, rfl, rfl, Below.refl _ _⟩
  case round =>
    obtain ⟨i, j, hi, hj, hjn, rfl, rfl, hbw⟩ := hrel
    by_cases hlt : i < j
    · obtain ⟨b, off, rfl, q0, q1⟩ := at_is (HA.out.below hbw) ((i + j) / 2) (by omega)
      have hx := cmpS_neg (gi xs ((i + j) / 2)).1 t
      have HG : Hid (xs.getD ((i + j) / 2) i0 = gi xs ((i + j) / 2)) := rfl
      rw [HG.out] at q0 q1
      by_cases hm : (i + j) / 2 < J
      · have hneg : cmpS (gi xs ((i + j) / 2)).1 t < 0 := hx.2 (H1.out _ hm)
        clear hx HG
        generalize gi xs ((i + j) / 2) = x at *
        go_wp2_with fail
        refine (hol_cmp x _ _).mono ?_
        rintro e w2 ⟨rfl, hb2⟩
        have hb3 : Below w.heap.size w w2 := bt hbw hb2 (Nat.le_refl _)
        go_wp2
        go_roundw
        case rel => exact ⟨(i + j) / 2 + 1, j, by omega, by omega, by omega, by go_num, rfl, hb3⟩
        case measure => simp [intOf]; omega
      · have hneg : ¬ cmpS (gi xs ((i + j) / 2)).1 t < 0 := fun g => by
          have := hx.1 g
          rw [H2.out _ (by omega) (by omega)] at this
          cases this
        clear hx HG
        generalize gi xs ((i + j) / 2) = x at *
        go_wp2_with fail
        refine (hol_cmp x _ _).mono ?_
        rintro e w2 ⟨rfl, hb2⟩
        have hb3 : Below w.heap.size w w2 := bt hbw hb2 (Nat.le_refl _)
        go_wp2
        go_roundw
        case rel => exact ⟨i, (i + j) / 2, by omega, by omega, by omega, rfl, by go_num, hb3⟩
        case measure => simp [intOf]; omega
    · obtain rfl : i = J := by omega
      by_cases hend : i < xs.length
      · have hd : decide (i < xs.length) = true := decide_eq_true hend
        have HF2 := Lib.hid (show F = (cmpS (gi xs i).1 t == 0) by rw [HF.out, hd]; rfl)
        obtain ⟨b, off, rfl, q0, q1⟩ := at_is (HA.out.below hbw) i hend
        have HG : Hid (xs.getD i i0 = gi xs i) := rfl
        rw [HG.out] at q0 q1
        clear HG
        generalize gi xs i = x at *
        go_wp2_with fail
        refine (hol_cmp x _ _).mono ?_
        rintro e w2 ⟨rfl, hb2⟩
        have hb3 : Below w.heap.size w w2 := bt hbw hb2 (Nat.le_refl _)
        go_wp2
        go_ret2
        exact ⟨by rw [HF2.out]; rfl, hb3⟩
      · have hd : decide (i < xs.length) = false := decide_eq_false hend
        have HF2 := Lib.hid (show F = false by rw [HF.out, hd]; rfl)
        go_wp2
        go_ret2
        exact ⟨by rw [HF2.out]; rfl, hbw⟩

end Go.Proofs.Ytbfgnkakcnhojaa.Co
