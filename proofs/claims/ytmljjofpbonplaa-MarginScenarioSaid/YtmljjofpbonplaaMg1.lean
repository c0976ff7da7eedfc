/-
  Margin: portfolios in memory; the walk of margin.portfolio.
-/
import Derived.Test.YtmljjofpbonplaaNm
import Derived.BigQuiet
import Derived.Deep.QuietTactic
namespace Go.Proofs.Ytmljjofpbonplaa.Mg
open Go.RowKit Go.Proofs.Ytmljjofpbonplaa Go.Proofs.Ytmljjofpbonplaa.Nm

/-- a slice of positions in memory: products P and quantities Q -/
def PosAt (w : World) (a : Option Addr) (n : Nat) (P : Nat → ByteArray) (Q : Nat → Int) : Prop :=
  ∀ i, i < n → ∃ b off, a = some ⟨b, off, none⟩ ∧ w.cell? ⟨b, off + i * 2, none⟩ = some (.string (P i)) ∧ w.cell? ⟨b, off + i * 2 + 1, none⟩ = some (.int .i64 (Q i))

theorem keep {w w' : World} {p : Addr} {v : Value} (h : w.cell? p = some v) (hb : Below w.heap.size w w') : w'.cell? p = some v := (hb.cell (World.block_lt_of_cell? w p h)).trans h
theorem PosAt.below {w w' : World} {a : Option Addr} {n : Nat} {P : Nat → ByteArray} {Q : Nat → Int} (h : PosAt w a n P Q) (hb : Below w.heap.size w w') : PosAt w' a n P Q := fun i hi => by
  obtain ⟨b, off, ha, h1, h2⟩ := h i hi
  exact ⟨b, off, ha, keep h1 hb, keep h2 hb⟩
theorem PosAt.prev {w : World} {b off : Nat} {n : Nat} {P : Nat → ByteArray} {Q : Nat → Int} (h : PosAt w (some ⟨b, off, none⟩) n P Q) (k : Nat) (hk : k < n) : w.cell? ⟨b, off + (k - 1) * 2, none⟩ = some (.string (P (k - 1))) := by
  obtain ⟨b', off', ha, h1, _⟩ := h (k - 1) (by omega)
  cases ha
  exact h1

theorem below_drewN {B : Nat} {a w : World} (h : Below B a w) (n : Nat) : Below B a (w.drewN n) := ⟨h.os, h.tape, h.output, h.size, h.block⟩
theorem hb (b : Bool) : b = true ∨ b = false := by cases b <;> simp
theorem all_succ {f : Nat → Bool} {k : Nat} (h : ∀ i, i < k → f i = false) (hk : f k = false) : ∀ i, i < k + 1 → f i = false := fun i hi => by
  rcases Nat.lt_or_ge i k with g | g
  · exact h i g
  · obtain rfl : i = k := by omega
    exact hk
theorem bt {B : Nat} {a b c : World} (h : Below B a b) (k : Below b.heap.size b c) (hB : B ≤ a.heap.size) : Below B a c := h.trans (k.mono (Nat.le_trans hB h.size))

theorem name_q (s : ByteArray) (w : World) (b : Bool) (hs : s.size ≤ maxLen) (h : nm s = b) : Calls Try.prog 47 #[.string s] w fun e w' => e = .returned (.bool b) ∧ w' = w := by
  subst h
  exact (name_any s w hs).mono fun _ _ h => ⟨h.1, h.2.symm⟩

set_option maxHeartbeats 400000 in
theorem within_any (x l : Int) (w : World) (h0 : 0 ≤ l) (h1 : l ≤ 1000000000) :
    Calls Try.prog 46 #[.int .i64 x, .int .i64 l] w fun e w' => e = .returned (.bool (decide (-l ≤ x ∧ x ≤ l))) ∧ w = w' := by
  by_cases h : -l ≤ x
  · have HE := Lib.hid (show decide (-l ≤ x ∧ x ≤ l) = decide (x ≤ l) by simp [h])
    go_enter Try.func46, Try.ntmps46
    go_wp2
    go_ret
    exact ⟨ret_bool HE.out.symm, rfl⟩
  · go_enter Try.func46, Try.ntmps46
    go_wp2
    go_ret
    exact ⟨ret_bool (by rw [decide_eq_false (show ¬ -l ≤ x by omega)]; rfl), rfl⟩
theorem within_q (x l : Int) (w : World) (b : Bool) (hl : 0 ≤ l ∧ l ≤ 1000000000) (h : decide (-l ≤ x ∧ x ≤ l) = b) : Calls Try.prog 46 #[.int .i64 x, .int .i64 l] w fun e w' => e = .returned (.bool b) ∧ w' = w := by
  subst h
  exact (within_any x l w hl.1 hl.2).mono fun _ _ h => ⟨h.1, h.2.symm⟩

/-- is the position at an index wrong? -/
def posBad (P : Nat → ByteArray) (Q : Nat → Int) (i : Nat) : Bool :=
  !nm (P i) || (decide ((0 : Int) < (i : Int)) && !Op.bytesLess (P (i - 1)).toList (P i).toList) || (Q i == 0) || !decide (-1048576 ≤ Q i ∧ Q i ≤ 1048576)
/-- is the portfolio valid? -/
def pfB (P : Nat → ByteArray) (Q : Nat → Int) (n : Nat) : Bool := decide (n ≤ 32) && (List.range n).all fun i => !posBad P Q i
theorem pfB_bad (P : Nat → ByteArray) (Q : Nat → Int) (n k : Nat) (hk : k < n) (h : posBad P Q k = true) : pfB P Q n = false := by
  unfold pfB
  have : ((List.range n).all fun i => !posBad P Q i) = false := by
    rw [List.all_eq_false]
    exact ⟨k, List.mem_range.2 hk, by simp [h]⟩
  rw [this, Bool.and_false]
theorem pfB_good (P : Nat → ByteArray) (Q : Nat → Int) (n : Nat) (hn : n ≤ 32) (h : ∀ i, i < n → posBad P Q i = false) : pfB P Q n = true := by
  unfold pfB
  rw [decide_eq_true hn, Bool.true_and, List.all_eq_true]
  intro i hi
  rw [h i (List.mem_range.1 hi)]
  rfl
def errV (b : Bool) : Int := if b then 0 else 8

set_option maxRecDepth 100000 in
set_option maxHeartbeats 8000000 in
theorem portfolio_any (a : Option Addr) (n cap : Nat) (P : Nat → ByteArray) (Q : Nat → Int) (w : World) (hn2 : n ≤ 9223372036854775807) (hP : ∀ i, (P i).size ≤ maxLen) (hc : PosAt w a n P Q) :
    Calls Try.prog 49 #[.slice a n cap] w fun e w' => e = .returned (.int .i64 (errV (pfB P Q n))) ∧ Below w.heap.size w w' := by
  have HC := Lib.hid hc
  have HP := Lib.hid hP
  clear hc hP
  by_cases h32 : n ≤ 32
  · go_enter Try.func49, Try.ntmps49
    go_wp2_with fail
    go_loopw [3, 4, 10] (fun _ _ c wr => ∃ k : Nat, k ≤ n ∧ c = .int .i64 k ∧ Hid (∀ i, i < k → posBad P Q i = false) ∧ Below w.heap.size w wr) (fun _ _ c _ => n - (intOf c).toNat)
    case atStart => exact ⟨0, by omega, rfl, Lib.hid (fun i hi => by omega), Below.refl _ _⟩
    case round =>
      obtain ⟨k, hk, rfl, HG, hbw⟩ := hrel
      by_cases hlt : k < n
      · have HC2 := Lib.hid (HC.out.below hbw)
        obtain ⟨b, off, rfl, q0, q1⟩ := HC2.out k hlt
        have q2 := HC2.out.prev k hlt
        have hbs : b < wr.heap.size := World.block_lt_of_cell? _ _ q0
        have hb2 : ∀ o : Obj, Below w.heap.size w (wr.alloc o) := fun o => hbw.alloc hbw.size o
        rcases hb (nm (P k)) with h1 | h1
        ·
          rcases hb (decide ((0 : Int) < (k : Int))) with h2 | h2
          ·
            rcases hb (Op.bytesLess (P (k - 1)).toList (P k).toList) with h3 | h3
            ·
              rcases hb (Q k == 0) with h4 | h4
              ·
                have HBAD := Lib.hid (pfB_bad P Q n k hlt (by unfold posBad; rw [h1, h2, h3, h4]; rfl))
                have h5 : decide (-1048576 ≤ Q k ∧ Q k ≤ 1048576) = decide (-1048576 ≤ Q k ∧ Q k ≤ 1048576) := rfl
                have HZ := Lib.hid (HP.out k)
                have hk1 : (0 : Int) < (k : Int) := of_decide_eq_true h2
                have hk0 : decide (0 < k) = true := decide_eq_true (by omega)
                have hk2 : (1 : Int) ≤ (k : Int) := hk1
                have hk3 : (0 : Int) ≤ (k : Int) - 1 := by omega
                have hk4 : (k : Int) - 1 < (n : Int) := by omega
                have hk5 : IntKind.i64.wrap ((k : Int) - 1) = (k : Int) - 1 := IntWalk.i64_in _ (by omega)
                have hk6 : ((k : Int) - 1).toNat = k - 1 := by omega
                go_wp2_with fail
                go_quiet ((first | (go_at_call 47; exact Calls.quiet_of_same (name_q _ _ _ HZ.out h1)) | (go_at_call 46; exact Calls.quiet_of_same (within_q _ _ _ _ (by omega) h5))))
                go_wp2
                go_ret
                exact ⟨by rw [HBAD.out]; rfl, below_drewN (hb2 _) _⟩
              ·
                rcases hb (decide (-1048576 ≤ Q k ∧ Q k ≤ 1048576)) with h5 | h5
                ·
                  have HG2 := Lib.hid (all_succ HG.out (show posBad P Q k = false by unfold posBad; rw [h1, h2, h3, h4, h5]; rfl))
                  have HZ := Lib.hid (HP.out k)
                  have hk1 : (0 : Int) < (k : Int) := of_decide_eq_true h2
                  have hk0 : decide (0 < k) = true := decide_eq_true (by omega)
                  have hk2 : (1 : Int) ≤ (k : Int) := hk1
                  have hk3 : (0 : Int) ≤ (k : Int) - 1 := by omega
                  have hk4 : (k : Int) - 1 < (n : Int) := by omega
                  have hk5 : IntKind.i64.wrap ((k : Int) - 1) = (k : Int) - 1 := IntWalk.i64_in _ (by omega)
                  have hk6 : ((k : Int) - 1).toNat = k - 1 := by omega
                  go_wp2_with fail
                  go_quiet ((first | (go_at_call 47; exact Calls.quiet_of_same (name_q _ _ _ HZ.out h1)) | (go_at_call 46; exact Calls.quiet_of_same (within_q _ _ _ _ (by omega) h5))))
                  go_wp2
                  go_roundw
                  case rel => exact ⟨k + 1, by omega, by go_num, HG2, below_drewN (hb2 _) _⟩
                  case measure => simp [intOf]; omega
                ·
                  have HBAD := Lib.hid (pfB_bad P Q n k hlt (by unfold posBad; rw [h1, h2, h3, h4, h5]; rfl))
                  have HZ := Lib.hid (HP.out k)
                  have hk1 : (0 : Int) < (k : Int) := of_decide_eq_true h2
                  have hk0 : decide (0 < k) = true := decide_eq_true (by omega)
                  have hk2 : (1 : Int) ≤ (k : Int) := hk1
                  have hk3 : (0 : Int) ≤ (k : Int) - 1 := by omega
                  have hk4 : (k : Int) - 1 < (n : Int) := by omega
                  have hk5 : IntKind.i64.wrap ((k : Int) - 1) = (k : Int) - 1 := IntWalk.i64_in _ (by omega)
                  have hk6 : ((k : Int) - 1).toNat = k - 1 := by omega
                  go_wp2_with fail
                  go_quiet ((first | (go_at_call 47; exact Calls.quiet_of_same (name_q _ _ _ HZ.out h1)) | (go_at_call 46; exact Calls.quiet_of_same (within_q _ _ _ _ (by omega) h5))))
                  go_wp2
                  go_ret
                  exact ⟨by rw [HBAD.out]; rfl, below_drewN (hb2 _) _⟩
            ·
              have HBAD := Lib.hid (pfB_bad P Q n k hlt (by unfold posBad; rw [h1, h2, h3]; rfl))
              have h5 : decide (-1048576 ≤ Q k ∧ Q k ≤ 1048576) = decide (-1048576 ≤ Q k ∧ Q k ≤ 1048576) := rfl
              have HZ := Lib.hid (HP.out k)
              have hk1 : (0 : Int) < (k : Int) := of_decide_eq_true h2
              have hk0 : decide (0 < k) = true := decide_eq_true (by omega)
              have hk2 : (1 : Int) ≤ (k : Int) := hk1
              have hk3 : (0 : Int) ≤ (k : Int) - 1 := by omega
              have hk4 : (k : Int) - 1 < (n : Int) := by omega
              have hk5 : IntKind.i64.wrap ((k : Int) - 1) = (k : Int) - 1 := IntWalk.i64_in _ (by omega)
              have hk6 : ((k : Int) - 1).toNat = k - 1 := by omega
              go_wp2_with fail
              go_quiet ((first | (go_at_call 47; exact Calls.quiet_of_same (name_q _ _ _ HZ.out h1)) | (go_at_call 46; exact Calls.quiet_of_same (within_q _ _ _ _ (by omega) h5))))
              go_wp2
              go_ret
              exact ⟨by rw [HBAD.out]; rfl, below_drewN (hb2 _) _⟩
          ·
            rcases hb (Q k == 0) with h4 | h4
            ·
              have HBAD := Lib.hid (pfB_bad P Q n k hlt (by unfold posBad; rw [h1, h2, h4]; rfl))
              have h5 : decide (-1048576 ≤ Q k ∧ Q k ≤ 1048576) = decide (-1048576 ≤ Q k ∧ Q k ≤ 1048576) := rfl
              have HZ := Lib.hid (HP.out k)
              have hk1 : ¬ (0 : Int) < (k : Int) := of_decide_eq_false h2
              have hk0 : decide (0 < k) = false := decide_eq_false (by omega)
              go_wp2_with fail
              go_quiet ((first | (go_at_call 47; exact Calls.quiet_of_same (name_q _ _ _ HZ.out h1)) | (go_at_call 46; exact Calls.quiet_of_same (within_q _ _ _ _ (by omega) h5))))
              go_wp2
              go_ret
              exact ⟨by rw [HBAD.out]; rfl, below_drewN (hb2 _) _⟩
            ·
              rcases hb (decide (-1048576 ≤ Q k ∧ Q k ≤ 1048576)) with h5 | h5
              ·
                have HG2 := Lib.hid (all_succ HG.out (show posBad P Q k = false by unfold posBad; rw [h1, h2, h4, h5]; rfl))
                have HZ := Lib.hid (HP.out k)
                have hk1 : ¬ (0 : Int) < (k : Int) := of_decide_eq_false h2
                have hk0 : decide (0 < k) = false := decide_eq_false (by omega)
                go_wp2_with fail
                go_quiet ((first | (go_at_call 47; exact Calls.quiet_of_same (name_q _ _ _ HZ.out h1)) | (go_at_call 46; exact Calls.quiet_of_same (within_q _ _ _ _ (by omega) h5))))
                go_wp2
                go_roundw
                case rel => exact ⟨k + 1, by omega, by go_num, HG2, below_drewN (hb2 _) _⟩
                case measure => simp [intOf]; omega
              ·
                have HBAD := Lib.hid (pfB_bad P Q n k hlt (by unfold posBad; rw [h1, h2, h4, h5]; rfl))
                have HZ := Lib.hid (HP.out k)
                have hk1 : ¬ (0 : Int) < (k : Int) := of_decide_eq_false h2
                have hk0 : decide (0 < k) = false := decide_eq_false (by omega)
                go_wp2_with fail
                go_quiet ((first | (go_at_call 47; exact Calls.quiet_of_same (name_q _ _ _ HZ.out h1)) | (go_at_call 46; exact Calls.quiet_of_same (within_q _ _ _ _ (by omega) h5))))
                go_wp2
                go_ret
                exact ⟨by rw [HBAD.out]; rfl, below_drewN (hb2 _) _⟩
        ·
          have HBAD := Lib.hid (pfB_bad P Q n k hlt (by unfold posBad; rw [h1]; rfl))
          have h5 : decide (-1048576 ≤ Q k ∧ Q k ≤ 1048576) = decide (-1048576 ≤ Q k ∧ Q k ≤ 1048576) := rfl
          have HZ := Lib.hid (HP.out k)
          go_wp2_with fail
          go_quiet ((first | (go_at_call 47; exact Calls.quiet_of_same (name_q _ _ _ HZ.out h1)) | (go_at_call 46; exact Calls.quiet_of_same (within_q _ _ _ _ (by omega) h5))))
          go_wp2
          go_ret
          exact ⟨by rw [HBAD.out]; rfl, below_drewN (hb2 _) _⟩
      · have HGOOD := Lib.hid (pfB_good P Q n h32 (fun i hi => HG.out i (by omega)))
        go_wp2
        go_ret
        exact ⟨by rw [HGOOD.out]; rfl, hbw⟩
  · have HBAD := Lib.hid (show pfB P Q n = false by unfold pfB; rw [decide_eq_false h32, Bool.false_and])
    go_enter Try.func49, Try.ntmps49
    go_wp2
    go_ret
    exact ⟨by rw [HBAD.out]; rfl, Below.refl _ _⟩
end Go.Proofs.Ytmljjofpbonplaa.Mg
