/-
  Collateral: holdings are checked: the walks of holdings, asked, and of the reference's Holdings.
-/
import Derived.Test.YtbfgnkakcnhojaaCo4
namespace Go.Proofs.Ytbfgnkakcnhojaa.Co
open Go.RowKit Go.Proofs.Ytbfgnkakcnhojaa Go.Proofs.Ytbfgnkakcnhojaa.Ls Go.Proofs.Ytbfgnkakcnhojaa.Kb
open Go.Proofs.Ytbfgnkakcnhojaa.Nm hiding ret_bool ret_int

theorem below_drewN {B : Nat} {a w : World} (h : Below B a w) (n : Nat) : Below B a (w.drewN n) := h.trans ⟨rfl, rfl, rfl, Nat.le_refl _, fun _ _ => rfl⟩
def eV (b : Bool) : Int := if b then 0 else 8
def allB (n : Nat) (P : Nat → Bool) : Bool := (List.range n).all P
theorem allB_yes {n : Nat} {P : Nat → Bool} (h : ∀ i, i < n → P i = true) : allB n P = true := by
  unfold allB
  rw [List.all_eq_true]
  exact fun i hi => h i (List.mem_range.1 hi)
theorem allB_no {n : Nat} {P : Nat → Bool} (i : Nat) (hi : i < n) (h : P i = false) : allB n P = false := by
  unfold allB
  rw [List.all_eq_false]
  exact ⟨i, List.mem_range.2 hi, by simp [h]⟩
theorem allB_at {n : Nat} {P : Nat → Bool} (h : allB n P = true) (i : Nat) (hi : i < n) : P i = true := by
  unfold allB at h
  exact List.all_eq_true.1 h i (List.mem_range.2 hi)
theorem succ_all {P : Nat → Bool} {k : Nat} (h : ∀ i, i < k → P i = true) (hk : P k = true) : ∀ i, i < k + 1 → P i = true := fun i hi => by
  rcases Nat.lt_or_ge i k with g | g
  · exact h i g
  · obtain rfl : i = k := by omega
    exact hk
/-- an element is right, and behind the one ahead of it -/
def elB (ok : Nat → Bool) (f : Nat → ByteArray) (i : Nat) : Bool := ok i && (!decide ((0 : Int) < (i : Int)) || Op.bytesLess (f (i - 1)).toList (f i).toList)
theorem elB_sorted {n : Nat} {ok : Nat → Bool} {f : Nat → ByteArray} (h : ∀ i, i < n → elB ok f i = true) : Sorted n f := fun i h0 hi => by
  have := h i hi
  unfold elB at this
  rw [Bool.and_eq_true, Bool.or_eq_true, decide_eq_true (show (0 : Int) < (i : Int) by omega)] at this
  rcases this.2 with g | g
  · cases g
  · exact g
theorem elB_ok {ok : Nat → Bool} {f : Nat → ByteArray} {i : Nat} (h : elB ok f i = true) : ok i = true := by
  unfold elB at h
  rw [Bool.and_eq_true] at h
  exact h.1
def holOK (xs : List (ByteArray × Int)) (i : Nat) : Bool := nm (gi xs i).1 && (decide (1 ≤ (gi xs i).2) && decide ((gi xs i).2 ≤ 1048576))
def holE (xs : List (ByteArray × Int)) : Nat → Bool := elB (holOK xs) fun i => (gi xs i).1
/-- are holdings right? -/
def holB (xs : List (ByteArray × Int)) : Bool := decide (xs.length ≤ 32) && allB xs.length (holE xs)
theorem holB_sorted {xs : List (ByteArray × Int)} (h : holB xs = true) : Sorted xs.length fun i => (gi xs i).1 := by
  unfold holB at h
  rw [Bool.and_eq_true] at h
  exact elB_sorted (fun i hi => allB_at h.2 i hi)
theorem holB_len {xs : List (ByteArray × Int)} (h : holB xs = true) : xs.length ≤ 32 := by
  unfold holB at h
  rw [Bool.and_eq_true, decide_eq_true_eq] at h
  exact h.1
theorem holB_at {xs : List (ByteArray × Int)} (h : holB xs = true) (i : Nat) (hi : i < xs.length) : nm (gi xs i).1 = true ∧ 1 ≤ (gi xs i).2 ∧ (gi xs i).2 ≤ 1048576 := by
  unfold holB at h
  rw [Bool.and_eq_true] at h
  have := elB_ok (allB_at h.2 i hi)
  unfold holOK at this
  rw [Bool.and_eq_true, Bool.and_eq_true, decide_eq_true_eq, decide_eq_true_eq] at this
  exact this
/-- names of a size that there is -/
def SzL (xs : List (ByteArray × Int)) : Prop := ∀ i, (gi xs i).1.size ≤ maxLen
theorem szL_of {xs : List (ByteArray × Int)} (h : ∀ x ∈ xs, x.1.size ≤ maxLen) : SzL xs := fun i => by
  unfold gi
  rcases Nat.lt_or_ge i xs.length with g | g
  · rw [List.getD_eq_getElem?_getD, List.getElem?_eq_getElem g]
    exact h _ (List.getElem_mem g)
  · rw [List.getD_eq_getElem?_getD, List.getElem?_eq_none g]
    show (0 : Nat) ≤ maxLen
    omega
theorem name_q (s : ByteArray) (w : World) (b : Bool) (hs : s.size ≤ maxLen) (h : nm s = b) : Calls Try.prog 44 #[.string s] w fun e w' => e = .returned (.bool b) ∧ w' = w := by
  subst h
  exact (name_any s w hs).mono fun _ _ h => ⟨h.1, h.2.symm⟩
theorem rname_q (s : ByteArray) (w : World) (b : Bool) (hs : s.size ≤ maxLen) (h : nm s = b) : Calls Try.prog 46 #[.string s] w fun e w' => e = .returned (.bool b) ∧ w' = w := by
  subst h
  exact (refName_any s w hs).mono fun _ _ h => ⟨h.1, h.2.symm⟩

set_option maxRecDepth 100000 in
set_option maxHeartbeats 8000000 in
theorem holdings_any (a : Option Addr) (c : Nat) (xs : List (ByteArray × Int)) (w : World) (hn : xs.length ≤ 1000) (hZ : SzL xs) (hA : AtL w 2 isc a xs) :
    Calls Try.prog 47 #[.slice a xs.length c] w fun e w' => e = .returned (.int .i64 (eV (holB xs))) ∧ Below w.heap.size w w' := by
  have HA := Lib.hid hA
  have HZL := Lib.hid (show ∀ i, (gi xs i).1.size ≤ maxLen from hZ)
  have HEL0 := Lib.hid (show ∀ k, holE xs k = (nm (gi xs k).1 && (decide (1 ≤ (gi xs k).2) && decide ((gi xs k).2 ≤ 1048576)) && (!decide ((0 : Int) < (k : Int)) || Op.bytesLess (gi xs (k - 1)).1.toList (gi xs k).1.toList)) from fun _ => rfl)
  clear hA hZ
  unfold holB
  obtain ⟨W, hW⟩ : ∃ W, W = (decide (xs.length ≤ 32) && allB xs.length (holE xs)) := ⟨_, rfl⟩
  rw [← hW]
  have HW := Lib.hid hW
  clear hW
  go_enter Try.func47, Try.ntmps47
  go_wp2_with fail
  go_loopw [3, 4, 7] (fun _ _ i wr => ∃ k : Nat, k ≤ xs.length ∧ i = .int .i64 k ∧ Hid (∀ i, i < k → holE xs i = true) ∧ Below w.heap.size w wr) (fun _ _ i _ => xs.length - (intOf i).toNat)
  case atStart => exact ⟨0, by omega, rfl, fun i hi => by omega, Below.refl _ _⟩
  case round =>
    obtain ⟨k, hk, rfl, HG, hbw⟩ := hrel
    by_cases hlt : k < xs.length
    · have hki : (k : Int) < xs.length := by omega
      obtain ⟨lb, lo, rfl, q0, q1⟩ := at_is (HA.out.below hbw) k hlt
      have q2 := (at_is' (HA.out.below hbw) (k - 1) (by omega)).1
      have HEL := Lib.hid (HEL0.out k)
      have HZ := Lib.hid (HZL.out k)
      change _ = some (Value.string (gi xs k).1) at q0
      change _ = some (Value.int .i64 (gi xs k).2) at q1
      change _ = some (Value.string (gi xs (k - 1)).1) at q2
      generalize (gi xs (k - 1)).1 = p at HEL q2
      generalize gi xs k = x at HEL HZ q0 q1
      have hbs : lb < wr.heap.size := World.block_lt_of_cell? _ _ q0
      have hbz : Below w.heap.size w (wr.alloc (.cells #[.string x.1, .int .i64 x.2] 56)) := hbw.alloc hbw.size _
      rcases hb (nm x.1) with h1 | h1
      ·
        rcases hb (decide ((1 : Int) ≤ x.2)) with h2 | h2
        ·
          rcases hb (decide (x.2 ≤ (1048576 : Int))) with h3 | h3
          ·
            rcases hb (decide ((0 : Int) < (k : Int))) with h4 | h4
            ·
              rcases hb (Op.bytesLess p.toList x.1.toList) with h5 | h5
              ·
                have HE := Lib.hid (show holE xs k = true by rw [HEL.out, h1, h2, h3, h4, h5]; simp)
                have HG2 := Lib.hid (succ_all HG.out HE.out)
                have g2 : (1 : Int) ≤ x.2 := of_decide_eq_true h2
                have g3 : x.2 ≤ (1048576 : Int) := of_decide_eq_true h3
                have h9 : decide ((1 : Int) ≤ x.2 ∧ x.2 ≤ 1048576) = true := decide_eq_true ⟨g2, g3⟩
                have hk1 : (0 : Int) < (k : Int) := of_decide_eq_true h4
                have hk2 : (1 : Int) ≤ (k : Int) := hk1
                have hk3 : (0 : Int) ≤ (k : Int) - 1 := by omega
                have hk4 : (k : Int) - 1 < (xs.length : Int) := by omega
                have hk5 : IntKind.i64.wrap ((k : Int) - 1) = (k : Int) - 1 := IntWalk.i64_in _ (by omega)
                have hk6 : ((k : Int) - 1).toNat = k - 1 := by omega
                have hk0 : decide (0 < k) = true := decide_eq_true (by omega)
                have hk7 : (k : Int) ≤ (xs.length : Int) := by omega
                go_wp2_with fail
                go_big_quiet ((first | (go_at_call 44; exact Calls.quiet_of_same (name_q _ _ _ HZ.out h1)) | (go_at_call 53; exact Calls.quiet_of_same (units_any _ _ _ h9))))
                go_wp2
                go_roundw
                case rel => exact ⟨k + 1, by omega, by go_num, HG2, below_drewN hbz _⟩
                case measure => simp [intOf]; omega
              ·
                have HE := Lib.hid (show holE xs k = false by rw [HEL.out, h1, h2, h3, h4, h5]; simp)
                have HBAD := Lib.hid (show allB xs.length (holE xs) = false from allB_no k hlt HE.out)
                have g2 : (1 : Int) ≤ x.2 := of_decide_eq_true h2
                have g3 : x.2 ≤ (1048576 : Int) := of_decide_eq_true h3
                have h9 : decide ((1 : Int) ≤ x.2 ∧ x.2 ≤ 1048576) = true := decide_eq_true ⟨g2, g3⟩
                have hk1 : (0 : Int) < (k : Int) := of_decide_eq_true h4
                have hk2 : (1 : Int) ≤ (k : Int) := hk1
                have hk3 : (0 : Int) ≤ (k : Int) - 1 := by omega
                have hk4 : (k : Int) - 1 < (xs.length : Int) := by omega
                have hk5 : IntKind.i64.wrap ((k : Int) - 1) = (k : Int) - 1 := IntWalk.i64_in _ (by omega)
                have hk6 : ((k : Int) - 1).toNat = k - 1 := by omega
                have hk0 : decide (0 < k) = true := decide_eq_true (by omega)
                have hk7 : (k : Int) ≤ (xs.length : Int) := by omega
                go_wp2_with fail
                go_big_quiet ((first | (go_at_call 44; exact Calls.quiet_of_same (name_q _ _ _ HZ.out h1)) | (go_at_call 53; exact Calls.quiet_of_same (units_any _ _ _ h9))))
                go_wp2
                go_ret
                exact ⟨ret_int (by rw [HW.out, HBAD.out, Bool.and_false]; rfl), below_drewN hbz _⟩
            ·
              have HE := Lib.hid (show holE xs k = true by rw [HEL.out, h1, h2, h3, h4]; simp)
              have HG2 := Lib.hid (succ_all HG.out HE.out)
              have g2 : (1 : Int) ≤ x.2 := of_decide_eq_true h2
              have g3 : x.2 ≤ (1048576 : Int) := of_decide_eq_true h3
              have h9 : decide ((1 : Int) ≤ x.2 ∧ x.2 ≤ 1048576) = true := decide_eq_true ⟨g2, g3⟩
              have hk1 : ¬ (0 : Int) < (k : Int) := of_decide_eq_false h4
              have hk0 : decide (0 < k) = false := decide_eq_false (by have := of_decide_eq_false h4; omega)
              go_wp2_with fail
              go_big_quiet ((first | (go_at_call 44; exact Calls.quiet_of_same (name_q _ _ _ HZ.out h1)) | (go_at_call 53; exact Calls.quiet_of_same (units_any _ _ _ h9))))
              go_wp2
              go_roundw
              case rel => exact ⟨k + 1, by omega, by go_num, HG2, below_drewN hbz _⟩
              case measure => simp [intOf]; omega
          ·
            have HE := Lib.hid (show holE xs k = false by rw [HEL.out, h1, h2, h3]; simp)
            have HBAD := Lib.hid (show allB xs.length (holE xs) = false from allB_no k hlt HE.out)
            have g2 : (1 : Int) ≤ x.2 := of_decide_eq_true h2
            have g3 : ¬ x.2 ≤ (1048576 : Int) := of_decide_eq_false h3
            have h9 : decide ((1 : Int) ≤ x.2 ∧ x.2 ≤ 1048576) = false := decide_eq_false (by omega)
            go_wp2_with fail
            go_big_quiet ((first | (go_at_call 44; exact Calls.quiet_of_same (name_q _ _ _ HZ.out h1)) | (go_at_call 53; exact Calls.quiet_of_same (units_any _ _ _ h9))))
            go_wp2
            go_ret
            exact ⟨ret_int (by rw [HW.out, HBAD.out, Bool.and_false]; rfl), below_drewN hbz _⟩
        ·
          have HE := Lib.hid (show holE xs k = false by rw [HEL.out, h1, h2]; simp)
          have HBAD := Lib.hid (show allB xs.length (holE xs) = false from allB_no k hlt HE.out)
          have g2 : ¬ (1 : Int) ≤ x.2 := of_decide_eq_false h2
          have h9 : decide ((1 : Int) ≤ x.2 ∧ x.2 ≤ 1048576) = false := decide_eq_false (by omega)
          go_wp2_with fail
          go_big_quiet ((first | (go_at_call 44; exact Calls.quiet_of_same (name_q _ _ _ HZ.out h1)) | (go_at_call 53; exact Calls.quiet_of_same (units_any _ _ _ h9))))
          go_wp2
          go_ret
          exact ⟨ret_int (by rw [HW.out, HBAD.out, Bool.and_false]; rfl), below_drewN hbz _⟩
      ·
        have HE := Lib.hid (show holE xs k = false by rw [HEL.out, h1]; simp)
        have HBAD := Lib.hid (show allB xs.length (holE xs) = false from allB_no k hlt HE.out)
        have h9 : decide ((1 : Int) ≤ x.2 ∧ x.2 ≤ 1048576) = decide ((1 : Int) ≤ x.2 ∧ x.2 ≤ 1048576) := rfl
        go_wp2_with fail
        go_big_quiet ((first | (go_at_call 44; exact Calls.quiet_of_same (name_q _ _ _ HZ.out h1)) | (go_at_call 53; exact Calls.quiet_of_same (units_any _ _ _ h9))))
        go_wp2
        go_ret
        exact ⟨ret_int (by rw [HW.out, HBAD.out, Bool.and_false]; rfl), below_drewN hbz _⟩
    · obtain rfl : k = xs.length := by omega
      have HALL := Lib.hid (show allB xs.length (holE xs) = true from allB_yes HG.out)
      by_cases h32 : xs.length ≤ 32
      · have hle : (xs.length : Int) ≤ 32 := by omega
        have H32 := Lib.hid (show decide (xs.length ≤ 32) = true from decide_eq_true h32)
        go_wp2
        go_ret
        exact ⟨ret_int (by rw [HW.out, HALL.out, H32.out]; rfl), hbw⟩
      · have hgt : (32 : Int) < xs.length := by omega
        have H32 := Lib.hid (show decide (xs.length ≤ 32) = false from decide_eq_false h32)
        go_wp2
        go_ret
        exact ⟨ret_int (by rw [HW.out, H32.out]; rfl), hbw⟩

set_option maxRecDepth 100000 in
set_option maxHeartbeats 8000000 in
theorem rholdings_any (a : Option Addr) (c : Nat) (xs : List (ByteArray × Int)) (w : World) (hn : xs.length ≤ 1000) (hZ : SzL xs) (hA : AtL w 2 isc a xs) :
    Calls Try.prog 49 #[.slice a xs.length c] w fun e w' => e = .returned (.bool (holB xs)) ∧ Below w.heap.size w w' := by
  have HA := Lib.hid hA
  have HZL := Lib.hid (show ∀ i, (gi xs i).1.size ≤ maxLen from hZ)
  have HEL0 := Lib.hid (show ∀ k, holE xs k = (nm (gi xs k).1 && (decide (1 ≤ (gi xs k).2) && decide ((gi xs k).2 ≤ 1048576)) && (!decide ((0 : Int) < (k : Int)) || Op.bytesLess (gi xs (k - 1)).1.toList (gi xs k).1.toList)) from fun _ => rfl)
  clear hA hZ
  unfold holB
  by_cases h32 : xs.length ≤ 32
  case neg =>
    have hgt : (32 : Int) < xs.length := by omega
    have H32 := Lib.hid (show decide (xs.length ≤ 32) = false from decide_eq_false h32)
    go_enter Try.func49, Try.ntmps49
    go_wp2
    go_ret
    exact ⟨ret_bool (by rw [H32.out, Bool.false_and]), Below.refl _ _⟩
  have hle : (xs.length : Int) ≤ 32 := by omega
  rw [decide_eq_true h32]
  clear h32
  go_enter Try.func49, Try.ntmps49
  go_wp2_with fail
  go_loopw [3] (fun i wr => ∃ k : Nat, k ≤ xs.length ∧ i = .int .i64 k ∧ Hid (∀ i, i < k → holE xs i = true) ∧ Below w.heap.size w wr) (fun i _ => xs.length - (intOf i).toNat)
  case atStart => exact ⟨0, by omega, rfl, fun i hi => by omega, Below.refl _ _⟩
  case round =>
    obtain ⟨k, hk, rfl, HG, hbw⟩ := hrel
    by_cases hlt : k < xs.length
    · have hki : (k : Int) < xs.length := by omega
      obtain ⟨lb, lo, rfl, q0, q1⟩ := at_is (HA.out.below hbw) k hlt
      have q2 := (at_is' (HA.out.below hbw) (k - 1) (by omega)).1
      have HEL := Lib.hid (HEL0.out k)
      have HZ := Lib.hid (HZL.out k)
      change _ = some (Value.string (gi xs k).1) at q0
      change _ = some (Value.int .i64 (gi xs k).2) at q1
      change _ = some (Value.string (gi xs (k - 1)).1) at q2
      generalize (gi xs (k - 1)).1 = p at HEL q2
      generalize gi xs k = x at HEL HZ q0 q1
      have hbs : lb < wr.heap.size := World.block_lt_of_cell? _ _ q0
      have hbz : Below w.heap.size w wr := hbw
      rcases hb (nm x.1) with h1 | h1
      ·
        rcases hb (decide ((1 : Int) ≤ x.2)) with h2 | h2
        ·
          rcases hb (decide (x.2 ≤ (1048576 : Int))) with h3 | h3
          ·
            rcases hb (decide ((0 : Int) < (k : Int))) with h4 | h4
            ·
              rcases hb (Op.bytesLess p.toList x.1.toList) with h5 | h5
              ·
                have HE := Lib.hid (show holE xs k = true by rw [HEL.out, h1, h2, h3, h4, h5]; simp)
                have HG2 := Lib.hid (succ_all HG.out HE.out)
                have g2 : (1 : Int) ≤ x.2 := of_decide_eq_true h2
                have g3 : x.2 ≤ (1048576 : Int) := of_decide_eq_true h3
                have f2 : decide (x.2 < (1 : Int)) = false := decide_eq_false (by omega)
                have f3 : decide ((1048576 : Int) < x.2) = false := decide_eq_false (by omega)
                have hk1 : (0 : Int) < (k : Int) := of_decide_eq_true h4
                have hk2 : (1 : Int) ≤ (k : Int) := hk1
                have hk3 : (0 : Int) ≤ (k : Int) - 1 := by omega
                have hk4 : (k : Int) - 1 < (xs.length : Int) := by omega
                have hk5 : IntKind.i64.wrap ((k : Int) - 1) = (k : Int) - 1 := IntWalk.i64_in _ (by omega)
                have hk6 : ((k : Int) - 1).toNat = k - 1 := by omega
                have hk0 : decide (0 < k) = true := decide_eq_true (by omega)
                have hk7 : (k : Int) ≤ (xs.length : Int) := by omega
                go_wp2_with fail
                go_big_quiet ((go_at_call 46; exact Calls.quiet_of_same (rname_q _ _ _ HZ.out h1)))
                go_wp2
                go_roundw
                case rel => exact ⟨k + 1, by omega, by go_num, HG2, below_drewN hbz _⟩
                case measure => simp [intOf]; omega
              ·
                have HE := Lib.hid (show holE xs k = false by rw [HEL.out, h1, h2, h3, h4, h5]; simp)
                have HBAD := Lib.hid (show allB xs.length (holE xs) = false from allB_no k hlt HE.out)
                have g2 : (1 : Int) ≤ x.2 := of_decide_eq_true h2
                have g3 : x.2 ≤ (1048576 : Int) := of_decide_eq_true h3
                have f2 : decide (x.2 < (1 : Int)) = false := decide_eq_false (by omega)
                have f3 : decide ((1048576 : Int) < x.2) = false := decide_eq_false (by omega)
                have hk1 : (0 : Int) < (k : Int) := of_decide_eq_true h4
                have hk2 : (1 : Int) ≤ (k : Int) := hk1
                have hk3 : (0 : Int) ≤ (k : Int) - 1 := by omega
                have hk4 : (k : Int) - 1 < (xs.length : Int) := by omega
                have hk5 : IntKind.i64.wrap ((k : Int) - 1) = (k : Int) - 1 := IntWalk.i64_in _ (by omega)
                have hk6 : ((k : Int) - 1).toNat = k - 1 := by omega
                have hk0 : decide (0 < k) = true := decide_eq_true (by omega)
                have hk7 : (k : Int) ≤ (xs.length : Int) := by omega
                go_wp2_with fail
                go_big_quiet ((go_at_call 46; exact Calls.quiet_of_same (rname_q _ _ _ HZ.out h1)))
                go_wp2
                go_ret
                exact ⟨ret_bool (by rw [HBAD.out]; rfl), below_drewN hbz _⟩
            ·
              have HE := Lib.hid (show holE xs k = true by rw [HEL.out, h1, h2, h3, h4]; simp)
              have HG2 := Lib.hid (succ_all HG.out HE.out)
              have g2 : (1 : Int) ≤ x.2 := of_decide_eq_true h2
              have g3 : x.2 ≤ (1048576 : Int) := of_decide_eq_true h3
              have f2 : decide (x.2 < (1 : Int)) = false := decide_eq_false (by omega)
              have f3 : decide ((1048576 : Int) < x.2) = false := decide_eq_false (by omega)
              have hk0 : decide (0 < k) = false := decide_eq_false (by have := of_decide_eq_false h4; omega)
              go_wp2_with fail
              go_big_quiet ((go_at_call 46; exact Calls.quiet_of_same (rname_q _ _ _ HZ.out h1)))
              go_wp2
              go_roundw
              case rel => exact ⟨k + 1, by omega, by go_num, HG2, below_drewN hbz _⟩
              case measure => simp [intOf]; omega
          ·
            have HE := Lib.hid (show holE xs k = false by rw [HEL.out, h1, h2, h3]; simp)
            have HBAD := Lib.hid (show allB xs.length (holE xs) = false from allB_no k hlt HE.out)
            have g2 : (1 : Int) ≤ x.2 := of_decide_eq_true h2
            have g3 : ¬ x.2 ≤ (1048576 : Int) := of_decide_eq_false h3
            have g4 : (1048576 : Int) < x.2 := by omega
            clear g3
            have f2 : decide (x.2 < (1 : Int)) = false := decide_eq_false (by omega)
            have f3 : decide ((1048576 : Int) < x.2) = true := decide_eq_true (by omega)
            go_wp2_with fail
            go_big_quiet ((go_at_call 46; exact Calls.quiet_of_same (rname_q _ _ _ HZ.out h1)))
            go_wp2
            go_ret
            exact ⟨ret_bool (by rw [HBAD.out]; rfl), below_drewN hbz _⟩
        ·
          have HE := Lib.hid (show holE xs k = false by rw [HEL.out, h1, h2]; simp)
          have HBAD := Lib.hid (show allB xs.length (holE xs) = false from allB_no k hlt HE.out)
          have g2 : ¬ (1 : Int) ≤ x.2 := of_decide_eq_false h2
          have f2 : decide (x.2 < (1 : Int)) = true := decide_eq_true (by omega)
          go_wp2_with fail
          go_big_quiet ((go_at_call 46; exact Calls.quiet_of_same (rname_q _ _ _ HZ.out h1)))
          go_wp2
          go_ret
          exact ⟨ret_bool (by rw [HBAD.out]; rfl), below_drewN hbz _⟩
      ·
        have HE := Lib.hid (show holE xs k = false by rw [HEL.out, h1]; simp)
        have HBAD := Lib.hid (show allB xs.length (holE xs) = false from allB_no k hlt HE.out)
        go_wp2_with fail
        go_big_quiet ((go_at_call 46; exact Calls.quiet_of_same (rname_q _ _ _ HZ.out h1)))
        go_wp2
        go_ret
        exact ⟨ret_bool (by rw [HBAD.out]; rfl), below_drewN hbz _⟩
    · obtain rfl : k = xs.length := by omega
      have HALL := Lib.hid (show allB xs.length (holE xs) = true from allB_yes HG.out)
      go_wp2
      go_ret
      exact ⟨ret_bool (by rw [HALL.out]; rfl), hbw⟩

end Go.Proofs.Ytbfgnkakcnhojaa.Co
