/-
  Member: the walks of slices.BinarySearchFunc and of find, at members and accounts.
-/
import Derived.Test.YtoemjpfoddeinaaMb6
namespace Go.Proofs.Ytoemjpfoddeinaa.Mb
open Go.RowKit Go.Proofs.Ytoemjpfoddeinaa Go.Proofs.Ytoemjpfoddeinaa.Ls Go.Proofs.Ytoemjpfoddeinaa.Kb
open Go.Proofs.Ytoemjpfoddeinaa.Nm hiding ret_bool ret_int

theorem ret_tup {a b : Value} {c d : Value} (h : a = b) (k : c = d) : Ending.returned (.tuple #[a, c]) = .returned (.tuple #[b, d]) := by rw [h, k]

/-- the closure that compares an element's name -/
theorem cmp_m (x : P) (t : ByteArray) (B : Nat) (w : World) (hB : w.cell? ⟨B, 0, none⟩ = some (.func (.func 41) #[] #[])) :
    Calls Try.prog 77 #[.agg #[.string x.1.nm, .int .u8 x.1.ro, .bool x.1.su, .int .i64 x.1.lim, .slice x.2.1 x.1.ac.length x.2.2], .string t, .pointer (some ⟨B, 0, none⟩)] w fun e w' => e = .returned (.int .i64 (cmpS x.1.nm t)) ∧ Below w.heap.size w w' := by
  have hbo : Below w.heap.size w (w.alloc (.cells #[.string x.1.nm, .int .u8 x.1.ro, .bool x.1.su, .int .i64 x.1.lim, .slice x.2.1 x.1.ac.length x.2.2] 30)) := (Below.refl _ _).alloc (Nat.le_refl _) _
  have hlt := World.block_lt_of_cell? _ _ hB
  go_enter Try.func77, Try.ntmps77
  go_wp2_with fail
  refine (mname_any x _).mono ?_
  rintro e w' ⟨rfl, hb1⟩
  have c1 := bt hbo hb1 (Nat.le_refl _)
  go_wp2_with fail
  refine (compare_any _ _ _).mono ?_
  rintro e w' ⟨rfl, rfl⟩
  go_wp2
  go_ret
  exact ⟨rfl, c1⟩

set_option maxRecDepth 100000 in
set_option maxHeartbeats 4000000 in
theorem search_m (a : Option Addr) (cap : Nat) (xs : List P) (t : ByteArray) (J : Nat) (F : Bool) (B : Nat) (w : World) (hB : w.cell? ⟨B, 0, none⟩ = some (.func (.func 41) #[] #[])) (hn : xs.length ≤ 1000) (hA : AtL w 5 mec a xs) (hJ : J ≤ xs.length)
    (h1 : ∀ i, i < J → lt (gp xs i).1.nm t = true) (h2 : ∀ i, J ≤ i → i < xs.length → lt (gp xs i).1.nm t = false) (hF : F = (decide (J < xs.length) && (cmpS (gp xs J).1.nm t == 0))) :
    Calls Try.prog 76 #[.slice a xs.length cap, .string t, .func (.func 77) #[] #[.pointer (some ⟨B, 0, none⟩)]] w fun e w' => e = .returned (.tuple #[.int .i64 J, .bool F]) ∧ Below w.heap.size w w' := by
  have HA := Lib.hid hA
  have H1 := Lib.hid h1
  have H2 := Lib.hid h2
  have HF := Lib.hid hF
  have HB := Lib.hid (show ∀ wx, Below w.heap.size w wx → wx.cell? ⟨B, 0, none⟩ = some (.func (.func 41) #[] #[]) from fun wx h => keep hB h)
  clear hA h1 h2 hF hB
  go_enter Try.func76, Try.ntmps76
  go_wp2_with fail
  go_loopw [9, 10, 11] (fun x y _ wr => ∃ i j : Nat, i ≤ J ∧ J ≤ j ∧ j ≤ xs.length ∧ x = .int .i64 i ∧ y = .int .i64 j ∧ Below w.heap.size w wr) (fun x y _ _ => (intOf y - intOf x).toNat)
  case atStart => exact ⟨0, xs.length, by omega, hJ, by omega, rfl, rfl, Below.refl _ _⟩
  case round =>
    obtain ⟨i, j, hi, hj, hjn, rfl, rfl, hbw⟩ := hrel
    by_cases hlt : i < j
    · obtain ⟨b, off, rfl, q0, q1, q2, q3, q4⟩ := at_p (HA.out.below hbw) ((i + j) / 2) (by omega)
      have hx := cmpS_neg (gp xs ((i + j) / 2)).1.nm t
      have HC := Lib.hid (cmp_m (gp xs ((i + j) / 2)) t B wr (HB.out _ hbw))
      by_cases hm : (i + j) / 2 < J
      · have hneg : cmpS (gp xs ((i + j) / 2)).1.nm t < 0 := hx.2 (H1.out _ hm)
        clear hx
        generalize gp xs ((i + j) / 2) = x at *
        go_wp2_with fail
        refine HC.out.mono ?_
        rintro e w2 ⟨rfl, hb2⟩
        have hb3 : Below w.heap.size w w2 := bt hbw hb2 (Nat.le_refl _)
        go_wp2
        go_roundw
        case rel => exact ⟨(i + j) / 2 + 1, j, by omega, by omega, by omega, by go_num, rfl, hb3⟩
        case measure => simp [intOf]; omega
      · have hneg : ¬ cmpS (gp xs ((i + j) / 2)).1.nm t < 0 := fun g => by
          have := hx.1 g
          rw [H2.out _ (by omega) (by omega)] at this
          cases this
        clear hx
        generalize gp xs ((i + j) / 2) = x at *
        go_wp2_with fail
        refine HC.out.mono ?_
        rintro e w2 ⟨rfl, hb2⟩
        have hb3 : Below w.heap.size w w2 := bt hbw hb2 (Nat.le_refl _)
        go_wp2
        go_roundw
        case rel => exact ⟨i, (i + j) / 2, by omega, by omega, by omega, rfl, by go_num, hb3⟩
        case measure => simp [intOf]; omega
    · obtain rfl : i = J := by omega
      by_cases hend : i < xs.length
      · have hd : decide (i < xs.length) = true := decide_eq_true hend
        have HF2 := Lib.hid (show F = (cmpS (gp xs i).1.nm t == 0) by rw [HF.out, hd]; rfl)
        obtain ⟨b, off, rfl, q0, q1, q2, q3, q4⟩ := at_p (HA.out.below hbw) i hend
        have HC := Lib.hid (cmp_m (gp xs i) t B wr (HB.out _ hbw))
        generalize gp xs i = x at *
        go_wp2_with fail
        refine HC.out.mono ?_
        rintro e w2 ⟨rfl, hb2⟩
        have hb3 : Below w.heap.size w w2 := bt hbw hb2 (Nat.le_refl _)
        go_wp2
        go_ret2
        exact ⟨by rw [HF2.out]; rfl, hb3⟩
      · have hd : decide (i < xs.length) = false := decide_eq_false hend
        have HF2 := Lib.hid (show F = false by rw [HF.out, hd]; rfl)
        go_wp2
        go_ret2
        exact ⟨by rw [HF2.out]; rfl, hbw⟩

set_option maxRecDepth 100000 in
set_option maxHeartbeats 4000000 in
theorem find_m (a : Option Addr) (c : Nat) (xs : List P) (t : ByteArray) (J : Nat) (F : Bool) (w : World) (hn : xs.length ≤ 1000) (hA : AtL w 5 mec a xs) (hJ : J ≤ xs.length)
    (h1 : ∀ i, i < J → lt (gp xs i).1.nm t = true) (h2 : ∀ i, J ≤ i → i < xs.length → lt (gp xs i).1.nm t = false) (hF : F = (decide (J < xs.length) && (cmpS (gp xs J).1.nm t == 0))) :
    Calls Try.prog 40 #[.slice a xs.length c, .func (.func 41) #[] #[], .string t] w fun e w' => e = .returned (.tuple #[.int .i64 J, .bool F]) ∧ Below w.heap.size w w' := by
  have hbo : Below w.heap.size w (w.alloc (.cells #[.func (.func 41) #[] #[]] 71)) := (Below.refl _ _).alloc (Nat.le_refl _) _
  have HSE := Lib.hid (search_m a c xs t J F w.heap.size (w.alloc (.cells #[.func (.func 41) #[] #[]] 71)) (cell_of (blk_new w _) 0 _ rfl) hn (hA.below hbo) hJ h1 h2 hF)
  clear hA h1 h2 hF
  go_enter Try.func40, Try.ntmps40
  go_wp2_with fail
  refine Calls.mono HSE.out ?_
  rintro e w1 ⟨rfl, hb1⟩
  have c1 := bt hbo hb1 (Nat.le_refl _)
  go_wp2
  go_ret2
  exact ⟨rfl, c1⟩

/-- the closure that compares an element's name -/
theorem cmp_a (x : Ac) (t : ByteArray) (B : Nat) (w : World) (hB : w.cell? ⟨B, 0, none⟩ = some (.func (.func 51) #[] #[])) :
    Calls Try.prog 82 #[.agg #[.string x.nm, .bool x.cl, .int .i64 x.lim, .int .i64 x.us], .string t, .pointer (some ⟨B, 0, none⟩)] w fun e w' => e = .returned (.int .i64 (cmpS x.nm t)) ∧ Below w.heap.size w w' := by
  have hbo : Below w.heap.size w (w.alloc (.cells #[.string x.nm, .bool x.cl, .int .i64 x.lim, .int .i64 x.us] 32)) := (Below.refl _ _).alloc (Nat.le_refl _) _
  have hlt := World.block_lt_of_cell? _ _ hB
  go_enter Try.func82, Try.ntmps82
  go_wp2_with fail
  refine (aname_any x _).mono ?_
  rintro e w' ⟨rfl, hb1⟩
  have c1 := bt hbo hb1 (Nat.le_refl _)
  go_wp2_with fail
  refine (compare_any _ _ _).mono ?_
  rintro e w' ⟨rfl, rfl⟩
  go_wp2
  go_ret
  exact ⟨rfl, c1⟩

set_option maxRecDepth 100000 in
set_option maxHeartbeats 4000000 in
theorem search_a (a : Option Addr) (cap : Nat) (xs : List Ac) (t : ByteArray) (J : Nat) (F : Bool) (B : Nat) (w : World) (hB : w.cell? ⟨B, 0, none⟩ = some (.func (.func 51) #[] #[])) (hn : xs.length ≤ 1000) (hA : AtL w 4 acc a xs) (hJ : J ≤ xs.length)
    (h1 : ∀ i, i < J → lt (ga xs i).nm t = true) (h2 : ∀ i, J ≤ i → i < xs.length → lt (ga xs i).nm t = false) (hF : F = (decide (J < xs.length) && (cmpS (ga xs J).nm t == 0))) :
    Calls Try.prog 81 #[.slice a xs.length cap, .string t, .func (.func 82) #[] #[.pointer (some ⟨B, 0, none⟩)]] w fun e w' => e = .returned (.tuple #[.int .i64 J, .bool F]) ∧ Below w.heap.size w w' := by
  have HA := Lib.hid hA
  have H1 := Lib.hid h1
  have H2 := Lib.hid h2
  have HF := Lib.hid hF
  have HB := Lib.hid (show ∀ wx, Below w.heap.size w wx → wx.cell? ⟨B, 0, none⟩ = some (.func (.func 51) #[] #[]) from fun wx h => keep hB h)
  clear hA h1 h2 hF hB
  go_enter Try.func81, Try.ntmps81
  go_wp2_with fail
  go_loopw [9, 10, 11] (fun x y _ wr => ∃ i j : Nat, i ≤ J ∧ J ≤ j ∧ j ≤ xs.length ∧ x = .int .i64 i ∧ y = .int .i64 j ∧ Below w.heap.size w wr) (fun x y _ _ => (intOf y - intOf x).toNat)
  case atStart => exact ⟨0, xs.length, by omega, hJ, by omega, rfl, rfl, Below.refl _ _⟩
  case round =>
    obtain ⟨i, j, hi, hj, hjn, rfl, rfl, hbw⟩ := hrel
    by_cases hlt : i < j
    · obtain ⟨b, off, rfl, q0, q1, q2, q3⟩ := at_a (HA.out.below hbw) ((i + j) / 2) (by omega)
      have hx := cmpS_neg (ga xs ((i + j) / 2)).nm t
      have HC := Lib.hid (cmp_a (ga xs ((i + j) / 2)) t B wr (HB.out _ hbw))
      by_cases hm : (i + j) / 2 < J
      · have hneg : cmpS (ga xs ((i + j) / 2)).nm t < 0 := hx.2 (H1.out _ hm)
        clear hx
        generalize ga xs ((i + j) / 2) = x at *
        go_wp2_with fail
        refine HC.out.mono ?_
        rintro e w2 ⟨rfl, hb2⟩
        have hb3 : Below w.heap.size w w2 := bt hbw hb2 (Nat.le_refl _)
        go_wp2
        go_roundw
        case rel => exact ⟨(i + j) / 2 + 1, j, by omega, by omega, by omega, by go_num, rfl, hb3⟩
        case measure => simp [intOf]; omega
      · have hneg : ¬ cmpS (ga xs ((i + j) / 2)).nm t < 0 := fun g => by
          have := hx.1 g
          rw [H2.out _ (by omega) (by omega)] at this
          cases this
        clear hx
        generalize ga xs ((i + j) / 2) = x at *
        go_wp2_with fail
        refine HC.out.mono ?_
        rintro e w2 ⟨rfl, hb2⟩
        have hb3 : Below w.heap.size w w2 := bt hbw hb2 (Nat.le_refl _)
        go_wp2
        go_roundw
        case rel => exact ⟨i, (i + j) / 2, by omega, by omega, by omega, rfl, by go_num, hb3⟩
        case measure => simp [intOf]; omega
    · obtain rfl : i = J := by omega
      by_cases hend : i < xs.length
      · have hd : decide (i < xs.length) = true := decide_eq_true hend
        have HF2 := Lib.hid (show F = (cmpS (ga xs i).nm t == 0) by rw [HF.out, hd]; rfl)
        obtain ⟨b, off, rfl, q0, q1, q2, q3⟩ := at_a (HA.out.below hbw) i hend
        have HC := Lib.hid (cmp_a (ga xs i) t B wr (HB.out _ hbw))
        generalize ga xs i = x at *
        go_wp2_with fail
        refine HC.out.mono ?_
        rintro e w2 ⟨rfl, hb2⟩
        have hb3 : Below w.heap.size w w2 := bt hbw hb2 (Nat.le_refl _)
        go_wp2
        go_ret2
        exact ⟨by rw [HF2.out]; rfl, hb3⟩
      · have hd : decide (i < xs.length) = false := decide_eq_false hend
        have HF2 := Lib.hid (show F = false by rw [HF.out, hd]; rfl)
        go_wp2
        go_ret2
        exact ⟨by rw [HF2.out]; rfl, hbw⟩

set_option maxRecDepth 100000 in
set_option maxHeartbeats 4000000 in
theorem find_a (a : Option Addr) (c : Nat) (xs : List Ac) (t : ByteArray) (J : Nat) (F : Bool) (w : World) (hn : xs.length ≤ 1000) (hA : AtL w 4 acc a xs) (hJ : J ≤ xs.length)
    (h1 : ∀ i, i < J → lt (ga xs i).nm t = true) (h2 : ∀ i, J ≤ i → i < xs.length → lt (ga xs i).nm t = false) (hF : F = (decide (J < xs.length) && (cmpS (ga xs J).nm t == 0))) :
    Calls Try.prog 50 #[.slice a xs.length c, .func (.func 51) #[] #[], .string t] w fun e w' => e = .returned (.tuple #[.int .i64 J, .bool F]) ∧ Below w.heap.size w w' := by
  have hbo : Below w.heap.size w (w.alloc (.cells #[.func (.func 51) #[] #[]] 79)) := (Below.refl _ _).alloc (Nat.le_refl _) _
  have HSE := Lib.hid (search_a a c xs t J F w.heap.size (w.alloc (.cells #[.func (.func 51) #[] #[]] 79)) (cell_of (blk_new w _) 0 _ rfl) hn (hA.below hbo) hJ h1 h2 hF)
  clear hA h1 h2 hF
  go_enter Try.func50, Try.ntmps50
  go_wp2_with fail
  refine Calls.mono HSE.out ?_
  rintro e w1 ⟨rfl, hb1⟩
  have c1 := bt hbo hb1 (Nat.le_refl _)
  go_wp2
  go_ret2
  exact ⟨rfl, c1⟩

end Go.Proofs.Ytoemjpfoddeinaa.Mb
