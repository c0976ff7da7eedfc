/-
  Compress: the walks of first and Cycle.
-/
import Derived.Test.YtpphiohppgphnaaCu6
import Derived.Laws.Cover3
namespace Go.Proofs.Ytpphiohppgphnaa.Cs
open Go.RowKit Go.Proofs.Ytpphiohppgphnaa Go.Proofs.Ytpphiohppgphnaa.Ls Go.Proofs.Ytpphiohppgphnaa.Kb Go.Proofs.Ytpphiohppgphnaa.Cz
open Go.Proofs.Ytpphiohppgphnaa.Nm hiding ret_bool ret_int hb'

theorem neq_nil_int (w : World) (a : Option Addr) (n c : Nat) : (binOp .neq 38 (.slice a n c) (.slice none 0 0)).run Try.prog w = .ok (.bool (!a.isNone)) w := run_neq_slice_nil w _ _ a n c Try.underlying38
theorem eql_nil_int (w : World) (a : Option Addr) (n c : Nat) : (binOp .eql 38 (.slice a n c) (.slice none 0 0)).run Try.prog w = .ok (.bool a.isNone) w := Lib.run_eql_slice_nil w _ _ a n c 0 0 Try.underlying38
theorem own_some {w : World} {B : Nat} {T : TypeId} {a : Option Addr} {n c : Nat} {x : Nat} {r : List Nat} (h : OwnL w B T 1 ic (.slice a n c) (il (x :: r))) : ∃ A, a = some A := by
  obtain ⟨b, off, h1, _⟩ := at_int (h.sl ic_len).1 0 (by rw [il_len]; simp)
  exact ⟨_, h1⟩
theorem first_nil {l : List Tr} (h : First l []) : ∀ j, j < l.length → ∀ n, ¬ Rch l (gt l j).con (gt l j).fr n (gt l j).to_ := by
  cases h with
  | none h => exact h
theorem back_nil {l : List Tr} {i : Nat} (h : Back l i []) : ∀ n, ¬ Rch l (gt l i).con (gt l i).fr n (gt l i).to_ := by
  cases h with
  | none h => exact h
theorem first_back {l : List Tr} {i x : Nat} {r r2 : List Nat} (hi : i < l.length) (hb : Back l i (x :: r)) (hn : ∀ j, j < i → ∀ n, ¬ Rch l (gt l j).con (gt l j).fr n (gt l j).to_) (hr : First l r2) : r2 = x :: r := by
  cases hb with
  | some d _ hd hg => exact hr.uniq (.some i d r hi hd hg hn)
set_option maxRecDepth 100000 in
set_option maxHeartbeats 4000000 in
theorem first_any (a : Option Addr) (cL : Nat) (l : List Tr) (r : List Nat) (w : World) (hn : l.length ≤ 1000) (hv : vldB l = true) (hA : AtL w 4 trc a l) (hr : First l r) :
    Calls Try.prog 28 #[.slice a l.length cL] w fun e w' => ∃ a' c', e = .returned (.slice a' r.length c') ∧ (r = [] → a' = none) ∧ OwnL w' w.heap.size 3 1 ic (.slice a' r.length c') (il r) ∧ Below w.heap.size w w' := by
  have qn := neq_nil_int
  have HA := Lib.hid hA
  have HR := Lib.hid hr
  have HV := Lib.hid hv
  clear hA hr hv
  go_enter Try.func28, Try.ntmps28
  go_wp2_with fail
  go_loopw [3, 4, 7] (fun _ _ i wr => ∃ I0 : Nat, I0 ≤ l.length ∧ i = .int .i64 I0 ∧ Hid (∀ j, j < I0 → ∀ n, ¬ Rch l (gt l j).con (gt l j).fr n (gt l j).to_) ∧ Hid (Below w.heap.size w wr)) (fun _ _ i _ => l.length - (intOf i).toNat)
  case atStart => exact ⟨0, by omega, rfl, fun j hj => by omega, Below.refl _ _⟩
  case round =>
    obtain ⟨I0, hI, rfl, HNO, HB⟩ := hrel
    rcases Nat.lt_or_ge I0 l.length with hil | hge
    · have hki : (I0 : Int) < l.length := by omega
      have hk0 : (0 : Int) ≤ (I0 : Int) := by omega
      obtain ⟨rb, hrb⟩ := back_exists l I0
      have HBK := Lib.hid (back_any a cL l I0 rb wr hn hil (okT_at HV.out I0 hil).2.2.2.1 (HA.out.below HB.out) hrb)
      have HRB := Lib.hid hrb
      clear hrb
      go_wp2_with fail
      refine HBK.out.mono ?_
      rintro e w1 ⟨a1, c1, rfl, hz1, ho1, hb1⟩
      have HB1 := Lib.hid (bt HB.out hb1 (Nat.le_refl _))
      have HO1 := Lib.hid (ho1.lower' HB.out.size)
      clear ho1 hb1 HBK
      cases rb with
      | nil =>
        obtain rfl := hz1 (by simp)
        have HNO2 := Lib.hid (back_nil HRB.out)
        clear hz1
        simp only [List.length_nil]
        go_wp2_with fail
        go_roundw
        case rel =>
          refine ⟨I0 + 1, by omega, by go_num, fun j hj => ?_, HB1⟩
          rcases Nat.eq_or_lt_of_le (show j ≤ I0 by omega) with e | e
          · rw [e]; exact HNO2.out
          · exact HNO.out j e
        case measure => simp [intOf]; omega
      | cons x rb =>
        obtain ⟨A1, rfl⟩ := own_some HO1.out
        obtain rfl := first_back hil HRB.out HNO.out HR.out
        clear hz1
        go_wp2_with fail
        go_ret
        exact ⟨_, _, rfl, fun h => (by cases h), HO1.out, HB1.out⟩
    · obtain rfl : I0 = l.length := by omega
      obtain rfl := HR.out.uniq (.none HNO.out)
      go_wp2_with fail
      go_ret
      exact ⟨none, 0, rfl, by simp, OwnL.nil _ _ _ _ _, HB.out⟩
set_option maxRecDepth 100000 in
set_option maxHeartbeats 8000000 in
theorem cycle_any (a : Option Addr) (cL : Nat) (l : List Tr) (r : List Nat) (e0 : Int) (w : World) (hn : l.length ≤ 1000) (hZ : SzT l) (hA : AtL w 4 trc a l) (hr : CycR l r e0) :
    Calls Try.prog 18 #[.slice a l.length cL] w fun e w' => ∃ a' c', e = .returned (.tuple #[.slice a' r.length c', .int .i64 e0]) ∧ OwnL w' w.heap.size 3 1 ic (.slice a' r.length c') (il r) ∧ Below w.heap.size w w' := by
  have qn := eql_nil_int
  have HC := Lib.hid (check_any a cL l w (by omega) hZ hA)
  have HFF := Lib.hid (fun (r : List Nat) (w1 : World) (hb1 : Below w.heap.size w w1) (h : First l r) (hv : vldB l = true) => first_any a cL l r w1 hn hv (hA.below hb1) h)
  clear hA hZ
  have hvl : chkE l = 0 → vldB l = true := fun h => by
    rcases chk_cases l with ⟨_, h1, _⟩ | h1 | h1
    · exact h1
    · rw [h] at h1; cases h1
    · rw [h] at h1; cases h1
  cases hr with
  | bad h =>
    have h1 : chkE l = 4 ∨ chkE l = 8 := by
      rcases chk_cases l with ⟨h0, _⟩ | h1 | h1
      · exact absurd h0 h
      · exact .inl h1
      · exact .inr h1
    rcases h1 with h1 | h1
    all_goals
      rw [h1] at HC ⊢
      clear h h1 HFF hvl
      go_enter Try.func18, Try.ntmps18
      go_wp2_with fail
      refine HC.out.mono ?_
      rintro e w1 ⟨rfl, hb1⟩
      go_wp2
      go_ret2
      exact ⟨none, 0, rfl, OwnL.nil _ _ _ _ _, hb1⟩
  | none h hr =>
    have HF := Lib.hid (fun w1 hb1 => HFF.out [] w1 hb1 hr (hvl h))
    rw [h] at HC
    clear h hr HFF hvl
    go_enter Try.func18, Try.ntmps18
    go_wp2_with fail
    refine HC.out.mono ?_
    rintro e w1 ⟨rfl, hb1⟩
    go_wp2_with fail
    refine (HF.out w1 hb1).mono ?_
    rintro e w2 ⟨a', c', rfl, hz2, ho2, hb2⟩
    obtain rfl := hz2 (by simp)
    have c2 := bt hb1 hb2 (Nat.le_refl _)
    clear ho2 HC HF hz2
    simp only [List.length_nil]
    go_wp2
    go_ret2
    exact ⟨none, 0, rfl, OwnL.nil _ _ _ _ _, c2⟩
  | some h x r hr =>
    have HF := Lib.hid (fun w1 hb1 => HFF.out (x :: r) w1 hb1 hr (hvl h))
    rw [h] at HC
    clear h hr HFF hvl
    go_enter Try.func18, Try.ntmps18
    go_wp2_with fail
    refine HC.out.mono ?_
    rintro e w1 ⟨rfl, hb1⟩
    go_wp2_with fail
    refine (HF.out w1 hb1).mono ?_
    rintro e w2 ⟨a', c', rfl, hz2, ho2, hb2⟩
    obtain ⟨A1, rfl⟩ := own_some ho2
    have c2 := bt hb1 hb2 (Nat.le_refl _)
    have HO2 := Lib.hid (ho2.lower' hb1.size)
    clear ho2 HC HF hz2
    go_wp2
    go_ret2
    exact ⟨_, c', rfl, HO2.out, c2⟩
end Go.Proofs.Ytpphiohppgphnaa.Cs
