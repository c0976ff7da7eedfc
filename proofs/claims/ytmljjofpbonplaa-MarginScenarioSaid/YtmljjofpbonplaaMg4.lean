/-
  Margin: the walk of margin.CheckGrid.
-/
import Derived.Test.YtmljjofpbonplaaMg3
namespace Go.Proofs.Ytmljjofpbonplaa.Mg
open Go.RowKit Go.Proofs.Ytmljjofpbonplaa Go.Proofs.Ytmljjofpbonplaa.Nm

def wBad (x : Int) : Bool := decide (x < 1 ∨ 1000 < x)
def mBad (x : Int) : Bool := !decide (-8388608 ≤ x ∧ x ≤ 8388608)
def anyI (p : Int → Bool) (f : Nat → Int) (n : Nat) : Bool := (List.range n).any fun i => p (f i)
theorem anyI_yes (p : Int → Bool) (f : Nat → Int) (n k : Nat) (hk : k < n) (h : p (f k) = true) : anyI p f n = true := by
  unfold anyI
  rw [List.any_eq_true]
  exact ⟨k, List.mem_range.2 hk, h⟩
theorem anyI_no (p : Int → Bool) (f : Nat → Int) (n : Nat) (h : ∀ j, j < n → p (f j) = false) : anyI p f n = false := by
  unfold anyI
  rw [List.any_eq_false]
  intro i hi
  rw [h i (List.mem_range.1 hi)]
  simp

set_option maxHeartbeats 400000 in
theorem clos_w (x : Int) (w : World) :
    Calls Try.prog 44 #[.int .i64 x] w fun e w' => e = .returned (.bool (wBad x)) ∧ w = w' := by
  by_cases h : x < 1
  · have HE := Lib.hid (show wBad x = true from decide_eq_true (.inl h))
    go_enter Try.func44, Try.ntmps44
    go_wp2
    go_ret
    exact ⟨ret_bool HE.out.symm, rfl⟩
  · have HE := Lib.hid (show wBad x = decide (1000 < x) by unfold wBad; simp; omega)
    go_enter Try.func44, Try.ntmps44
    go_wp2
    go_ret
    exact ⟨ret_bool HE.out.symm, rfl⟩
set_option maxHeartbeats 400000 in
theorem clos_m (x : Int) (w : World) :
    Calls Try.prog 45 #[.int .i64 x] w fun e w' => e = .returned (.bool (mBad x)) ∧ w = w' := by
  have HE := Lib.hid (show mBad x = !decide (-8388608 ≤ x ∧ x ≤ 8388608) from rfl)
  generalize hd : decide (-8388608 ≤ x ∧ x ≤ 8388608) = b at HE
  have HD := Lib.hid hd
  clear hd
  go_enter Try.func45, Try.ntmps45
  go_wp2_with fail
  refine (within_q x 8388608 _ b (by omega) HD.out).mono ?_
  rintro e w' ⟨rfl, rfl⟩
  go_wp2
  go_ret
  exact ⟨ret_bool HE.out.symm, rfl⟩

set_option maxHeartbeats 1000000 in
theorem index_w (a : Option Addr) (n cap : Nat) (f : Nat → Int) (w : World) (hn : n ≤ 9223372036854775807) (hA : IntsAt w a n f) :
    Calls Try.prog 57 #[.slice a n cap, .func (.func 44) #[] #[]] w fun e w' => ∃ r : Int, e = .returned (.int .i64 r) ∧ decide (0 ≤ r) = anyI wBad f n ∧ w = w' := by
  have HA := Lib.hid hA
  clear hA
  go_enter Try.func57, Try.ntmps57
  go_wp2_with fail
  go_loop [5, 8] (fun _ i => ∃ k : Nat, k ≤ n ∧ i = .int .i64 k ∧ Hid (∀ j, j < k → wBad (f j) = false)) (fun _ i => n - (intOf i).toNat)
  case atStart => exact ⟨0, by omega, rfl, Lib.hid (fun j hj => by omega)⟩
  case round =>
    obtain ⟨k, hk, rfl, HG⟩ := hrel
    by_cases hlt : k < n
    · obtain ⟨b, off, rfl, q0⟩ := HA.out k hlt
      rcases hb (wBad (f k)) with hp | hp
      · have HY := Lib.hid (anyI_yes wBad f n k hlt hp)
        have HP := Lib.hid hp
        clear hp
        go_wp2_with fail
        refine (clos_w _ _).mono ?_
        rintro e w' ⟨rfl, rfl⟩
        rw [HP.out]
        go_wp2
        go_ret
        exact ⟨_, rfl, by rw [HY.out]; simp, rfl⟩
      · have HG2 := Lib.hid (all_succ HG.out hp)
        have HP := Lib.hid hp
        clear hp
        go_wp2_with fail
        refine (clos_w _ _).mono ?_
        rintro e w' ⟨rfl, rfl⟩
        rw [HP.out]
        go_wp2
        go_round
        case rel => exact ⟨k + 1, by omega, by go_num, HG2⟩
        case measure => simp [intOf]; omega
    · have HN := Lib.hid (anyI_no wBad f n (fun j hj => HG.out j (by omega)))
      go_wp2
      go_ret
      exact ⟨-1, rfl, by rw [HN.out]; rfl, rfl⟩

theorem contains_w (a : Option Addr) (n cap : Nat) (f : Nat → Int) (w : World) (hn : n ≤ 9223372036854775807) (hA : IntsAt w a n f) :
    Calls Try.prog 43 #[.slice a n cap, .func (.func 44) #[] #[]] w fun e w' => e = .returned (.bool (anyI wBad f n)) ∧ w = w' := by
  have HA := Lib.hid hA
  clear hA
  go_enter Try.func43, Try.ntmps43
  go_wp2_with fail
  refine (index_w a n cap f _ hn HA.out).mono ?_
  rintro e w' ⟨r, rfl, hr, rfl⟩
  have HR := Lib.hid hr
  clear hr
  go_wp2
  go_ret
  exact ⟨ret_bool HR.out, rfl⟩

set_option maxHeartbeats 1000000 in
theorem index_m (a : Option Addr) (n cap : Nat) (f : Nat → Int) (w : World) (hn : n ≤ 9223372036854775807) (hA : IntsAt w a n f) :
    Calls Try.prog 57 #[.slice a n cap, .func (.func 45) #[] #[]] w fun e w' => ∃ r : Int, e = .returned (.int .i64 r) ∧ decide (0 ≤ r) = anyI mBad f n ∧ w = w' := by
  have HA := Lib.hid hA
  clear hA
  go_enter Try.func57, Try.ntmps57
  go_wp2_with fail
  go_loop [5, 8] (fun _ i => ∃ k : Nat, k ≤ n ∧ i = .int .i64 k ∧ Hid (∀ j, j < k → mBad (f j) = false)) (fun _ i => n - (intOf i).toNat)
  case atStart => exact ⟨0, by omega, rfl, Lib.hid (fun j hj => by omega)⟩
  case round =>
    obtain ⟨k, hk, rfl, HG⟩ := hrel
    by_cases hlt : k < n
    · obtain ⟨b, off, rfl, q0⟩ := HA.out k hlt
      rcases hb (mBad (f k)) with hp | hp
      · have HY := Lib.hid (anyI_yes mBad f n k hlt hp)
        have HP := Lib.hid hp
        clear hp
        go_wp2_with fail
        refine (clos_m _ _).mono ?_
        rintro e w' ⟨rfl, rfl⟩
        rw [HP.out]
        go_wp2
        go_ret
        exact ⟨_, rfl, by rw [HY.out]; simp, rfl⟩
      · have HG2 := Lib.hid (all_succ HG.out hp)
        have HP := Lib.hid hp
        clear hp
        go_wp2_with fail
        refine (clos_m _ _).mono ?_
        rintro e w' ⟨rfl, rfl⟩
        rw [HP.out]
        go_wp2
        go_round
        case rel => exact ⟨k + 1, by omega, by go_num, HG2⟩
        case measure => simp [intOf]; omega
    · have HN := Lib.hid (anyI_no mBad f n (fun j hj => HG.out j (by omega)))
      go_wp2
      go_ret
      exact ⟨-1, rfl, by rw [HN.out]; rfl, rfl⟩

theorem contains_m (a : Option Addr) (n cap : Nat) (f : Nat → Int) (w : World) (hn : n ≤ 9223372036854775807) (hA : IntsAt w a n f) :
    Calls Try.prog 43 #[.slice a n cap, .func (.func 45) #[] #[]] w fun e w' => e = .returned (.bool (anyI mBad f n)) ∧ w = w' := by
  have HA := Lib.hid hA
  clear hA
  go_enter Try.func43, Try.ntmps43
  go_wp2_with fail
  refine (index_m a n cap f _ hn HA.out).mono ?_
  rintro e w' ⟨r, rfl, hr, rfl⟩
  have HR := Lib.hid hr
  clear hr
  go_wp2
  go_ret
  exact ⟨ret_bool HR.out, rfl⟩

/-- is the product at an index wrong? -/
def pdBad (P : Nat → PD) (nw : Nat) (i : Nat) : Bool :=
  !nm (P i).nm || (decide ((0 : Int) < (i : Int)) && !Op.bytesLess (P (i - 1)).nm.toList (P i).nm.toList) || (((P i).len : Int) != (nw : Int)) || anyI mBad (P i).mv (P i).len || decide ((P i).fee < 0) || decide (8388608 < (P i).fee)
def pdB (P : Nat → PD) (np nw : Nat) : Bool := (List.range np).all fun i => !pdBad P nw i
theorem pdB_bad (P : Nat → PD) (np nw k : Nat) (hk : k < np) (h : pdBad P nw k = true) : pdB P np nw = false := by
  unfold pdB
  rw [List.all_eq_false]
  exact ⟨k, List.mem_range.2 hk, by simp [h]⟩
theorem pdB_good (P : Nat → PD) (np nw : Nat) (h : ∀ i, i < np → pdBad P nw i = false) : pdB P np nw = true := by
  unfold pdB
  rw [List.all_eq_true]
  intro i hi
  rw [h i (List.mem_range.1 hi)]
  rfl
/-- is the grid valid? -/
def gridB (W : Nat → Int) (nw : Nat) (P : Nat → PD) (np : Nat) : Bool := decide (1 ≤ nw ∧ nw ≤ 50 ∧ np ≤ 32) && !anyI wBad W nw && pdB P np nw

/-- the strings are no longer than strings are, and so the moves -/
def PDok (P : Nat → PD) : Prop := ∀ i, (P i).nm.size ≤ maxLen ∧ (P i).len ≤ maxLen

set_option maxRecDepth 100000 in
set_option maxHeartbeats 16000000 in
theorem checkGrid_any (wa pa : Option Addr) (nw wc np pc : Nat) (W : Nat → Int) (P : Nat → PD) (w : World) (hw0 : nw ≤ maxLen) (hp0 : np ≤ maxLen) (hok : PDok P) (hW : IntsAt w wa nw W) (hA : ProdsAt w pa np P) :
    Calls Try.prog 24 #[.agg #[.slice wa nw wc, .slice pa np pc]] w fun e w' => e = .returned (.int .i64 (errV (gridB W nw P np))) ∧ Below w.heap.size w w' := by
  unfold maxLen at hw0 hp0
  have HA := Lib.hid hA
  have HW := Lib.hid hW
  have HP := Lib.hid (fun k => (hok k).1)
  have HM := Lib.hid (fun k => (hok k).2)
  have hblk := blk_new w (.cells #[.slice wa nw wc, .slice pa np pc] 25)
  have hbo : Below w.heap.size w (w.alloc (.cells #[.slice wa nw wc, .slice pa np pc] 25)) := (Below.refl _ _).alloc (Nat.le_refl _) _
  clear hA hW hok
  by_cases hsz : 1 ≤ nw ∧ nw ≤ 50 ∧ np ≤ 32
  · have HD := Lib.hid (show decide (1 ≤ nw ∧ nw ≤ 50 ∧ np ≤ 32) = true from decide_eq_true hsz)
    obtain ⟨s1, s2, s3⟩ := hsz
    have HW2 := Lib.hid (HW.out.below hbo)
    have HX0 := Lib.hid hblk
    rcases hb (anyI wBad W nw) with hany | hany
    · have HN := Lib.hid hany
      clear hany hblk hbo
      go_enter Try.func24, Try.ntmps24
      go_wp2_with fail
      refine (contains_w wa nw wc W _ hw0 HW2.out).mono ?_
      rintro e w' ⟨rfl, rfl⟩
      rw [HN.out]
      have HF := Lib.hid (show gridB W nw P np = false by rw [gridB, HN.out, Bool.not_true, Bool.and_false, Bool.false_and])
      go_wp2
      go_ret
      exact ⟨by rw [HF.out]; rfl, (Below.refl _ _).alloc (Nat.le_refl _) _⟩
    · have HN := Lib.hid hany
      clear hany
      have HB0 := Lib.hid hbo
      clear hblk hbo
      go_enter Try.func24, Try.ntmps24
      go_wp2_with fail
      refine (contains_w wa nw wc W _ hw0 HW2.out).mono ?_
      rintro e w' ⟨rfl, rfl⟩
      rw [HN.out]
      go_wp2_with fail
      go_loopw [4, 5, 6, 28] (fun _ _ _ c wr => ∃ k : Nat, k ≤ np ∧ c = .int .i64 k ∧ Hid (∀ i, i < k → pdBad P nw i = false) ∧ Below w.heap.size w wr ∧ Hid (wr.heap[w.heap.size]? = some (.cells #[.slice wa nw wc, .slice pa np pc] 25 (0, 0)))) (fun _ _ _ c _ => np - (intOf c).toNat)
      case atStart => exact ⟨0, by omega, rfl, Lib.hid (fun i hi => by omega), HB0.out, HX0⟩
      case round =>
        clear HX0 HB0 HW2
        obtain ⟨k, hk, rfl, HG, hbw, HX⟩ := hrel
        by_cases hlt : k < np
        · have HC2 := Lib.hid (HA.out.below hbw)
          obtain ⟨b, off, rfl, q0, q1, q3, qi⟩ := HC2.out k hlt
          have q2 := HC2.out.prev k hlt
          have hbs : b < wr.heap.size := World.block_lt_of_cell? _ _ q0
          have x1 : wr.cell? ⟨w.heap.size, 1, none⟩ = some (.slice (some ⟨b, off, none⟩) np pc) := cell_of HX.out 1 _ rfl
          have hws : w.heap.size < wr.heap.size := World.block_lt_of_cell? _ _ x1
          have hb2 : ∀ o : Obj, Below w.heap.size w (wr.alloc o) := fun o => hbw.alloc hbw.size o
          have HI := Lib.hid (qi.below ((Below.refl _ _).alloc (Nat.le_refl _) (.cells #[.string (P k).nm, .slice (P k).a (P k).len (P k).cap, .int .i64 (P k).fee] 54)))
          have HX := Lib.hid (blk_past wr (.cells #[.string (P k).nm, .slice (P k).a (P k).len (P k).cap, .int .i64 (P k).fee] 54) HX.out)
          have hL := HM.out k
          unfold maxLen at hL
          have HL := Lib.hid hL
          clear hL qi
          rcases hb (nm (P k).nm) with h1 | h1
          ·
            rcases hb (decide ((0 : Int) < (k : Int))) with h2 | h2
            ·
              rcases hb (Op.bytesLess (P (k - 1)).nm.toList (P k).nm.toList) with h3 | h3
              ·
                rcases hb (((P k).len : Int) != (nw : Int)) with h4 | h4
                ·
                  have HBAD := Lib.hid (pdB_bad P np nw k hlt (by unfold pdBad; rw [h1, h2, h3, h4]; rfl))
                  have HZ := Lib.hid (HP.out k)
                  have hk1 : (0 : Int) < (k : Int) := of_decide_eq_true h2
                  have hk0 : decide (0 < k) = true := decide_eq_true (by omega)
                  have hk2 : (1 : Int) ≤ (k : Int) := hk1
                  have hk3 : (0 : Int) ≤ (k : Int) - 1 := by omega
                  have hk4 : (k : Int) - 1 < (np : Int) := by omega
                  have hk5 : IntKind.i64.wrap ((k : Int) - 1) = (k : Int) - 1 := IntWalk.i64_in _ (by omega)
                  have hk6 : ((k : Int) - 1).toNat = k - 1 := by omega
                  go_wp2_with fail
                  refine (contains_m (P k).a (P k).len (P k).cap (P k).mv _ HL.out HI.out).mono ?_
                  rintro e w' ⟨rfl, rfl⟩
                  go_wp2_with fail
                  go_quiet ((go_at_call 47; exact Calls.quiet_of_same (name_q _ _ _ HZ.out h1)))
                  go_wp2
                  go_ret
                  exact ⟨by rw [gridB, HBAD.out, Bool.and_false]; rfl, below_drewN (hb2 _) _⟩
                ·
                  rcases hb (anyI mBad (P k).mv (P k).len) with h5 | h5
                  ·
                    have HBAD := Lib.hid (pdB_bad P np nw k hlt (by unfold pdBad; rw [h1, h2, h3, h4, h5]; rfl))
                    have HZ := Lib.hid (HP.out k)
                    have hk1 : (0 : Int) < (k : Int) := of_decide_eq_true h2
                    have hk0 : decide (0 < k) = true := decide_eq_true (by omega)
                    have hk2 : (1 : Int) ≤ (k : Int) := hk1
                    have hk3 : (0 : Int) ≤ (k : Int) - 1 := by omega
                    have hk4 : (k : Int) - 1 < (np : Int) := by omega
                    have hk5 : IntKind.i64.wrap ((k : Int) - 1) = (k : Int) - 1 := IntWalk.i64_in _ (by omega)
                    have hk6 : ((k : Int) - 1).toNat = k - 1 := by omega
                    go_wp2_with fail
                    refine (contains_m (P k).a (P k).len (P k).cap (P k).mv _ HL.out HI.out).mono ?_
                    rintro e w' ⟨rfl, rfl⟩
                    rw [h5]
                    go_wp2_with fail
                    go_quiet ((go_at_call 47; exact Calls.quiet_of_same (name_q _ _ _ HZ.out h1)))
                    go_wp2
                    go_ret
                    exact ⟨by rw [gridB, HBAD.out, Bool.and_false]; rfl, below_drewN (hb2 _) _⟩
                  ·
                    rcases hb (decide ((P k).fee < 0)) with h6 | h6
                    ·
                      have HBAD := Lib.hid (pdB_bad P np nw k hlt (by unfold pdBad; rw [h1, h2, h3, h4, h5, h6]; rfl))
                      have HZ := Lib.hid (HP.out k)
                      have hk1 : (0 : Int) < (k : Int) := of_decide_eq_true h2
                      have hk0 : decide (0 < k) = true := decide_eq_true (by omega)
                      have hk2 : (1 : Int) ≤ (k : Int) := hk1
                      have hk3 : (0 : Int) ≤ (k : Int) - 1 := by omega
                      have hk4 : (k : Int) - 1 < (np : Int) := by omega
                      have hk5 : IntKind.i64.wrap ((k : Int) - 1) = (k : Int) - 1 := IntWalk.i64_in _ (by omega)
                      have hk6 : ((k : Int) - 1).toNat = k - 1 := by omega
                      go_wp2_with fail
                      refine (contains_m (P k).a (P k).len (P k).cap (P k).mv _ HL.out HI.out).mono ?_
                      rintro e w' ⟨rfl, rfl⟩
                      rw [h5]
                      go_wp2_with fail
                      go_quiet ((go_at_call 47; exact Calls.quiet_of_same (name_q _ _ _ HZ.out h1)))
                      go_wp2
                      go_ret
                      exact ⟨by rw [gridB, HBAD.out, Bool.and_false]; rfl, below_drewN (hb2 _) _⟩
                    ·
                      rcases hb (decide (8388608 < (P k).fee)) with h7 | h7
                      ·
                        have HBAD := Lib.hid (pdB_bad P np nw k hlt (by unfold pdBad; rw [h1, h2, h3, h4, h5, h6, h7]; rfl))
                        have HZ := Lib.hid (HP.out k)
                        have hk1 : (0 : Int) < (k : Int) := of_decide_eq_true h2
                        have hk0 : decide (0 < k) = true := decide_eq_true (by omega)
                        have hk2 : (1 : Int) ≤ (k : Int) := hk1
                        have hk3 : (0 : Int) ≤ (k : Int) - 1 := by omega
                        have hk4 : (k : Int) - 1 < (np : Int) := by omega
                        have hk5 : IntKind.i64.wrap ((k : Int) - 1) = (k : Int) - 1 := IntWalk.i64_in _ (by omega)
                        have hk6 : ((k : Int) - 1).toNat = k - 1 := by omega
                        go_wp2_with fail
                        refine (contains_m (P k).a (P k).len (P k).cap (P k).mv _ HL.out HI.out).mono ?_
                        rintro e w' ⟨rfl, rfl⟩
                        rw [h5]
                        go_wp2_with fail
                        go_quiet ((go_at_call 47; exact Calls.quiet_of_same (name_q _ _ _ HZ.out h1)))
                        go_wp2
                        go_ret
                        exact ⟨by rw [gridB, HBAD.out, Bool.and_false]; rfl, below_drewN (hb2 _) _⟩
                      ·
                        have HG2 := Lib.hid (all_succ HG.out (show pdBad P nw k = false by unfold pdBad; rw [h1, h2, h3, h4, h5, h6, h7]; rfl))
                        have HZ := Lib.hid (HP.out k)
                        have hk1 : (0 : Int) < (k : Int) := of_decide_eq_true h2
                        have hk0 : decide (0 < k) = true := decide_eq_true (by omega)
                        have hk2 : (1 : Int) ≤ (k : Int) := hk1
                        have hk3 : (0 : Int) ≤ (k : Int) - 1 := by omega
                        have hk4 : (k : Int) - 1 < (np : Int) := by omega
                        have hk5 : IntKind.i64.wrap ((k : Int) - 1) = (k : Int) - 1 := IntWalk.i64_in _ (by omega)
                        have hk6 : ((k : Int) - 1).toNat = k - 1 := by omega
                        go_wp2_with fail
                        refine (contains_m (P k).a (P k).len (P k).cap (P k).mv _ HL.out HI.out).mono ?_
                        rintro e w' ⟨rfl, rfl⟩
                        rw [h5]
                        go_wp2_with fail
                        go_quiet ((go_at_call 47; exact Calls.quiet_of_same (name_q _ _ _ HZ.out h1)))
                        go_wp2
                        go_roundw
                        case rel => exact ⟨k + 1, by omega, by go_num, HG2, below_drewN (hb2 _) _, HX⟩
                        case measure => simp [intOf]; omega
              ·
                have HBAD := Lib.hid (pdB_bad P np nw k hlt (by unfold pdBad; rw [h1, h2, h3]; rfl))
                have HZ := Lib.hid (HP.out k)
                have hk1 : (0 : Int) < (k : Int) := of_decide_eq_true h2
                have hk0 : decide (0 < k) = true := decide_eq_true (by omega)
                have hk2 : (1 : Int) ≤ (k : Int) := hk1
                have hk3 : (0 : Int) ≤ (k : Int) - 1 := by omega
                have hk4 : (k : Int) - 1 < (np : Int) := by omega
                have hk5 : IntKind.i64.wrap ((k : Int) - 1) = (k : Int) - 1 := IntWalk.i64_in _ (by omega)
                have hk6 : ((k : Int) - 1).toNat = k - 1 := by omega
                go_wp2_with fail
                refine (contains_m (P k).a (P k).len (P k).cap (P k).mv _ HL.out HI.out).mono ?_
                rintro e w' ⟨rfl, rfl⟩
                go_wp2_with fail
                go_quiet ((go_at_call 47; exact Calls.quiet_of_same (name_q _ _ _ HZ.out h1)))
                go_wp2
                go_ret
                exact ⟨by rw [gridB, HBAD.out, Bool.and_false]; rfl, below_drewN (hb2 _) _⟩
            ·
              rcases hb (((P k).len : Int) != (nw : Int)) with h4 | h4
              ·
                have HBAD := Lib.hid (pdB_bad P np nw k hlt (by unfold pdBad; rw [h1, h2, h4]; rfl))
                have HZ := Lib.hid (HP.out k)
                have hk1 : ¬ (0 : Int) < (k : Int) := of_decide_eq_false h2
                have hk0 : decide (0 < k) = false := decide_eq_false (by omega)
                go_wp2_with fail
                refine (contains_m (P k).a (P k).len (P k).cap (P k).mv _ HL.out HI.out).mono ?_
                rintro e w' ⟨rfl, rfl⟩
                go_wp2_with fail
                go_quiet ((go_at_call 47; exact Calls.quiet_of_same (name_q _ _ _ HZ.out h1)))
                go_wp2
                go_ret
                exact ⟨by rw [gridB, HBAD.out, Bool.and_false]; rfl, below_drewN (hb2 _) _⟩
              ·
                rcases hb (anyI mBad (P k).mv (P k).len) with h5 | h5
                ·
                  have HBAD := Lib.hid (pdB_bad P np nw k hlt (by unfold pdBad; rw [h1, h2, h4, h5]; rfl))
                  have HZ := Lib.hid (HP.out k)
                  have hk1 : ¬ (0 : Int) < (k : Int) := of_decide_eq_false h2
                  have hk0 : decide (0 < k) = false := decide_eq_false (by omega)
                  go_wp2_with fail
                  refine (contains_m (P k).a (P k).len (P k).cap (P k).mv _ HL.out HI.out).mono ?_
                  rintro e w' ⟨rfl, rfl⟩
                  rw [h5]
                  go_wp2_with fail
                  go_quiet ((go_at_call 47; exact Calls.quiet_of_same (name_q _ _ _ HZ.out h1)))
                  go_wp2
                  go_ret
                  exact ⟨by rw [gridB, HBAD.out, Bool.and_false]; rfl, below_drewN (hb2 _) _⟩
                ·
                  rcases hb (decide ((P k).fee < 0)) with h6 | h6
                  ·
                    have HBAD := Lib.hid (pdB_bad P np nw k hlt (by unfold pdBad; rw [h1, h2, h4, h5, h6]; rfl))
                    have HZ := Lib.hid (HP.out k)
                    have hk1 : ¬ (0 : Int) < (k : Int) := of_decide_eq_false h2
                    have hk0 : decide (0 < k) = false := decide_eq_false (by omega)
                    go_wp2_with fail
                    refine (contains_m (P k).a (P k).len (P k).cap (P k).mv _ HL.out HI.out).mono ?_
                    rintro e w' ⟨rfl, rfl⟩
                    rw [h5]
                    go_wp2_with fail
                    go_quiet ((go_at_call 47; exact Calls.quiet_of_same (name_q _ _ _ HZ.out h1)))
                    go_wp2
                    go_ret
                    exact ⟨by rw [gridB, HBAD.out, Bool.and_false]; rfl, below_drewN (hb2 _) _⟩
                  ·
                    rcases hb (decide (8388608 < (P k).fee)) with h7 | h7
                    ·
                      have HBAD := Lib.hid (pdB_bad P np nw k hlt (by unfold pdBad; rw [h1, h2, h4, h5, h6, h7]; rfl))
                      have HZ := Lib.hid (HP.out k)
                      have hk1 : ¬ (0 : Int) < (k : Int) := of_decide_eq_false h2
                      have hk0 : decide (0 < k) = false := decide_eq_false (by omega)
                      go_wp2_with fail
                      refine (contains_m (P k).a (P k).len (P k).cap (P k).mv _ HL.out HI.out).mono ?_
                      rintro e w' ⟨rfl, rfl⟩
                      rw [h5]
                      go_wp2_with fail
                      go_quiet ((go_at_call 47; exact Calls.quiet_of_same (name_q _ _ _ HZ.out h1)))
                      go_wp2
                      go_ret
                      exact ⟨by rw [gridB, HBAD.out, Bool.and_false]; rfl, below_drewN (hb2 _) _⟩
                    ·
                      have HG2 := Lib.hid (all_succ HG.out (show pdBad P nw k = false by unfold pdBad; rw [h1, h2, h4, h5, h6, h7]; rfl))
                      have HZ := Lib.hid (HP.out k)
                      have hk1 : ¬ (0 : Int) < (k : Int) := of_decide_eq_false h2
                      have hk0 : decide (0 < k) = false := decide_eq_false (by omega)
                      go_wp2_with fail
                      refine (contains_m (P k).a (P k).len (P k).cap (P k).mv _ HL.out HI.out).mono ?_
                      rintro e w' ⟨rfl, rfl⟩
                      rw [h5]
                      go_wp2_with fail
                      go_quiet ((go_at_call 47; exact Calls.quiet_of_same (name_q _ _ _ HZ.out h1)))
                      go_wp2
                      go_roundw
                      case rel => exact ⟨k + 1, by omega, by go_num, HG2, below_drewN (hb2 _) _, HX⟩
                      case measure => simp [intOf]; omega
          ·
            have HBAD := Lib.hid (pdB_bad P np nw k hlt (by unfold pdBad; rw [h1]; rfl))
            have HZ := Lib.hid (HP.out k)
            go_wp2_with fail
            refine (contains_m (P k).a (P k).len (P k).cap (P k).mv _ HL.out HI.out).mono ?_
            rintro e w' ⟨rfl, rfl⟩
            go_wp2_with fail
            go_quiet ((go_at_call 47; exact Calls.quiet_of_same (name_q _ _ _ HZ.out h1)))
            go_wp2
            go_ret
            exact ⟨by rw [gridB, HBAD.out, Bool.and_false]; rfl, below_drewN (hb2 _) _⟩
        · have HGOOD := Lib.hid (pdB_good P np nw (fun i hi => HG.out i (by omega)))
          have HE := Lib.hid (show gridB W nw P np = true by rw [gridB, HD.out, HN.out, HGOOD.out]; rfl)
          go_wp2
          go_ret
          exact ⟨by rw [HE.out]; rfl, hbw⟩
  · have HD := Lib.hid (show gridB W nw P np = false by rw [gridB, decide_eq_false hsz, Bool.false_and, Bool.false_and])
    have HX0 := Lib.hid hblk
    by_cases hs1 : nw < 1
    · clear hsz hblk hbo
      go_enter Try.func24, Try.ntmps24
      go_wp2
      go_ret
      exact ⟨by rw [HD.out]; rfl, (Below.refl _ _).alloc (Nat.le_refl _) _⟩
    · by_cases hs2 : 50 < nw
      · clear hsz hblk hbo
        go_enter Try.func24, Try.ntmps24
        go_wp2
        go_ret
        exact ⟨by rw [HD.out]; rfl, (Below.refl _ _).alloc (Nat.le_refl _) _⟩
      · have hs3 : 32 < np := by omega
        clear hsz hblk hbo
        go_enter Try.func24, Try.ntmps24
        go_wp2
        go_ret
        exact ⟨by rw [HD.out]; rfl, (Below.refl _ _).alloc (Nat.le_refl _) _⟩
end Go.Proofs.Ytmljjofpbonplaa.Mg
