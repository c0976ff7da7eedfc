/-
  Compress: the walks of the reference's Cycle, Torn and Compress.
-/
import Derived.Test.YtpphiohppgphnaaCs6
import Derived.Test.YtpphiohppgphnaaCz4
namespace Go.Proofs.Ytpphiohppgphnaa.Cs
open Go.RowKit Go.Proofs.Ytpphiohppgphnaa Go.Proofs.Ytpphiohppgphnaa.Ls Go.Proofs.Ytpphiohppgphnaa.Kb Go.Proofs.Ytpphiohppgphnaa.Cz
open Go.Proofs.Ytpphiohppgphnaa.Nm hiding ret_bool ret_int hb'

/-- what Cycle returns -/
inductive CycR (l : List Tr) : List Nat → Int → Prop
  | bad (h : chkE l ≠ 0) : CycR l [] (chkE l)
  | none (h : chkE l = 0) (hr : First l []) : CycR l [] 6
  | some (h : chkE l = 0) (x : Nat) (r : List Nat) (hr : First l (x :: r)) : CycR l (x :: r) 0
theorem cycR_exists (l : List Tr) : ∃ r e, CycR l r e := by
  by_cases h : chkE l = 0
  · obtain ⟨r, hr⟩ := first_exists l
    cases r with
    | nil => exact ⟨_, _, .none h hr⟩
    | cons x r => exact ⟨_, _, .some h x r hr⟩
  · exact ⟨_, _, .bad h⟩
set_option maxRecDepth 100000 in
set_option maxHeartbeats 8000000 in
theorem rcycle_any (a : Option Addr) (cL : Nat) (l : List Tr) (r : List Nat) (e0 : Int) (w : World) (hn : l.length ≤ 1000000) (hZ : SzT l) (hA : AtL w 4 trc a l) (hr : CycR l r e0) :
    Calls Try.prog 19 #[.slice a l.length cL] w fun e w' => ∃ a' c', e = .returned (.tuple #[.slice a' r.length c', .int .i64 e0]) ∧ OwnL w' w.heap.size 3 1 ic (.slice a' r.length c') (il r) ∧ Below w.heap.size w w' := by
  have HC := Lib.hid (rcheck_any a cL l w hn hZ hA)
  have HFF := Lib.hid (fun (r : List Nat) (w1 : World) (hb1 : Below w.heap.size w w1) (h : First l r) => rfirst_any a cL l r w1 hn (hA.below hb1) h)
  clear hA hZ
  cases hr with
  | bad h =>
    have h1 : chkE l = 4 ∨ chkE l = 8 := by
      rcases chk_cases l with ⟨h0, _⟩ | h1 | h1
      · exact absurd h0 h
      · exact .inl h1
      · exact .inr h1
    rcases h1 with h1 | h1
    all_goals
      rw [h1] at HC ⊢
      clear h h1 HFF
      go_enter Try.func19, Try.ntmps19
      go_wp2_with fail
      refine HC.out.mono ?_
      rintro e w1 ⟨rfl, hb1⟩
      go_wp2
      go_ret2
      exact ⟨none, 0, rfl, OwnL.nil _ _ _ _ _, hb1⟩
  | none h hr =>
    have HF := Lib.hid (fun w1 hb1 => HFF.out [] w1 hb1 hr)
    rw [h] at HC
    clear h hr HFF
    go_enter Try.func19, Try.ntmps19
    go_wp2_with fail
    refine HC.out.mono ?_
    rintro e w1 ⟨rfl, hb1⟩
    go_wp2_with fail
    refine (HF.out w1 hb1).mono ?_
    rintro e w2 ⟨a', c', rfl, ho2, hb2⟩
    have c2 := bt hb1 hb2 (Nat.le_refl _)
    clear ho2 HC HF
    simp only [List.length_nil]
    go_wp2
    go_ret2
    exact ⟨none, 0, rfl, OwnL.nil _ _ _ _ _, c2⟩
  | some h x r hr =>
    have HF := Lib.hid (fun w1 hb1 => HFF.out (x :: r) w1 hb1 hr)
    rw [h] at HC
    have hl : ((((x :: r).length : Nat) : Int) == 0) = false := by rw [beq_eq_false_iff_ne, List.length_cons]; omega
    clear h hr HFF
    generalize x :: r = r at *
    go_enter Try.func19, Try.ntmps19
    go_wp2_with fail
    refine HC.out.mono ?_
    rintro e w1 ⟨rfl, hb1⟩
    go_wp2_with fail
    refine (HF.out w1 hb1).mono ?_
    rintro e w2 ⟨a', c', rfl, ho2, hb2⟩
    have c2 := bt hb1 hb2 (Nat.le_refl _)
    have HO2 := Lib.hid (ho2.lower' hb1.size)
    clear ho2 HC HF
    go_wp2
    go_ret2
    exact ⟨a', c', rfl, HO2.out, c2⟩
end Go.Proofs.Ytpphiohppgphnaa.Cs
