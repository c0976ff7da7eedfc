/-
  Compress: the walks of slices.IndexFunc and slices.DeleteFunc with the test 'amount 0'.
-/
import Derived.Test.YtpphiohppgphnaaCu9
namespace Go.Proofs.Ytpphiohppgphnaa.Cs
open Go.RowKit Go.Proofs.Ytpphiohppgphnaa Go.Proofs.Ytpphiohppgphnaa.Ls Go.Proofs.Ytpphiohppgphnaa.Kb Go.Proofs.Ytpphiohppgphnaa.Cz
open Go.Proofs.Ytpphiohppgphnaa.Nm hiding ret_bool ret_int hb'

set_option maxRecDepth 100000 in
theorem zero_any (x : Tr) (w : World) :
    Calls Try.prog 30 #[.agg #[.string x.fr, .string x.to_, .string x.con, .int .i64 x.amt]] w fun e w' => e = .returned (.bool (x.amt == 0)) ∧ Below w.heap.size w w' := by
  have hb : Below w.heap.size w (w.alloc (.cells #[.string x.fr, .string x.to_, .string x.con, .int .i64 x.amt] 31)) := (Below.refl _ _).alloc (Nat.le_refl _) _
  go_enter Try.func30, Try.ntmps30
  go_wp2
  go_ret
  exact ⟨rfl, hb⟩
set_option maxRecDepth 100000 in
set_option maxHeartbeats 2000000 in
theorem index_any (a : Option Addr) (c : Nat) (l : List Tr) (w : World) (hn : l.length ≤ 1000) (hA : AtL w 4 trc a l) :
    Calls Try.prog 38 #[.slice a l.length c, .func (.func 30) #[] #[]] w fun e w' => ∃ k : Int, e = .returned (.int .i64 k) ∧ ((k = -1 ∧ ∀ i, i < l.length → (gt l i).amt ≠ 0) ∨ ∃ I : Nat, k = I ∧ I < l.length ∧ (gt l I).amt = 0 ∧ ∀ j, j < I → (gt l j).amt ≠ 0) ∧ Below w.heap.size w w' := by
  have HA := Lib.hid hA
  clear hA
  go_enter Try.func38, Try.ntmps38
  go_wp2_with fail
  go_loopw [5, 8] (fun _ i wr => ∃ I0 : Nat, I0 ≤ l.length ∧ i = .int .i64 I0 ∧ Hid (∀ j, j < I0 → (gt l j).amt ≠ 0) ∧ Hid (Below w.heap.size w wr)) (fun _ i _ => l.length - (intOf i).toNat)
  case atStart => exact ⟨0, by omega, rfl, fun j hj => by omega, Below.refl _ _⟩
  case round =>
    obtain ⟨I0, hI, rfl, HNO, HB⟩ := hrel
    rcases Nat.lt_or_ge I0 l.length with hil | hge
    · have hki : (I0 : Int) < l.length := by omega
      have hk0 : (0 : Int) ≤ (I0 : Int) := by omega
      obtain ⟨lb, lo, rfl, q0, q1, q2, q3⟩ := at_tr (HA.out.below HB.out) I0 hil
      have HZ := Lib.hid (zero_any (gt l I0) wr)
      go_wp2_with fail
      refine HZ.out.mono ?_
      rintro e w1 ⟨rfl, hb1⟩
      have HB1 := Lib.hid (bt HB.out hb1 (Nat.le_refl _))
      clear hb1 HZ
      obtain ⟨b, hb⟩ : ∃ b : Bool, ((gt l I0).amt == 0) = b := ⟨_, rfl⟩
      rw [hb]
      have HBB := Lib.hid hb
      clear hb
      cases b
      · go_wp2_with fail
        go_roundw
        case rel =>
          refine ⟨I0 + 1, by omega, by go_num, fun j hj => ?_, HB1⟩
          rcases Nat.eq_or_lt_of_le (show j ≤ I0 by omega) with e | e
          · rw [e]; exact fun h => by have := HBB.out; rw [h] at this; cases this
          · exact HNO.out j e
        case measure => simp [intOf]; omega
      · go_wp2_with fail
        go_ret
        exact ⟨_, rfl, .inr ⟨I0, rfl, hil, beq_iff_eq.1 HBB.out, HNO.out⟩, HB1.out⟩
    · obtain rfl : I0 = l.length := by omega
      go_wp2_with fail
      go_ret
      exact ⟨_, rfl, .inl ⟨rfl, HNO.out⟩, HB.out⟩
end Go.Proofs.Ytpphiohppgphnaa.Cs
