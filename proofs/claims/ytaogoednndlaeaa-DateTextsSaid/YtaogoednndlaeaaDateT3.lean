/-
  The walks of the date reference: figures, Text, Parse; and the law DateTexts.
-/
import Derived.Test.YtaogoednndlaeaaDateT2
import Derived.Test.YtaogoednndlaeaaDateR2
namespace Go.Proofs.Ytaogoednndlaeaa.Dt
open Go.RowKit Go.Proofs.Ytaogoednndlaeaa

theorem toList_mk (l : List UInt8) : (⟨l.toArray⟩ : ByteArray).data.toList = l := rfl
theorem mk_append (a b : List UInt8) : (⟨a.toArray⟩ : ByteArray) ++ ⟨b.toArray⟩ = ⟨(a ++ b).toArray⟩ := by
  apply ByteArray.ext
  simp [ByteArray.data_append]

/-- the j last digits, behind which others lie already: what the loop has made -/
theorem digs_front (j : Nat) (n : Int) : digs (j + 1) n = [dg (n / 10 ^ j)] ++ digs j n := by
  induction j generalizing n with
  | zero => simp [digs]
  | succ j ih =>
    rw [digs, ih (n / 10)]
    conv => rhs; rw [digs]
    have e : n / 10 / 10 ^ j = n / 10 ^ (j + 1) := by rw [Int.ediv_ediv_of_nonneg (by omega), Int.pow_succ, Int.mul_comm]
    rw [e, List.append_assoc]

theorem conv_one (r : Int) (wr : World) :
    ∃ D : ByteArray, D = ⟨[dg r].toArray⟩ ∧ D.size = 1 ∧ (convert 56 9 (.slice (some ⟨wr.heap.size, 0, none⟩) 1 1)).run Try.prog (wr.alloc (.cells #[.int .u8 (48 + r % 10)] 5)) = .ok (.string D) (wr.alloc (.cells #[.int .u8 (48 + r % 10)] 5)) := by
  refine ⟨_, rfl, rfl, ?_⟩
  refine run_convert_bytes_back (P := Try.prog) (wr.alloc (.cells #[.int .u8 (48 + r % 10)] 5)) 56 9 5 ⟨wr.heap.size, 0, none⟩ 1 [dg r] Try.underlying56 Try.underlying5 Try.underlying9 (fun j hj => ?_)
  have h0 : j = 0 := by simpa using hj
  subst h0
  have := dg_nat r
  simp only [List.getElem_cons_zero, this]
  exact World.cell?_alloc_new wr _ _ 0

set_option maxRecDepth 100000 in
set_option maxHeartbeats 1000000 in
theorem figures_any (n : Int) (many : Nat) (w : World) (h0 : 0 ≤ n) (h1 : n ≤ 9999) (hm : many ≤ 4) :
    Calls Try.prog 36 #[.int .i64 n, .int .i64 many] w fun e w' => e = .returned (.string ⟨(digs many n).toArray⟩) ∧ Below w.heap.size w w' := by
  go_enter Try.func36, Try.ntmps36
  go_wp2_with fail
  go_loopw [0, 5, 6] (fun a s i wr => ∃ (k : Nat) (r : Int) (S : ByteArray), k ≤ many ∧ i = .int .i64 k ∧ 0 ≤ r ∧ r ≤ 9999 ∧ a = .int .i64 r ∧ Hid (r = n / 10 ^ k) ∧ s = .string S ∧ S.size ≤ 4 ∧ Hid (S = ⟨(digs k n).toArray⟩) ∧ Below w.heap.size w wr) (fun _ _ i _ => many - (intOf i).toNat)
  case atStart => exact ⟨0, n, ⟨#[]⟩, Nat.zero_le _, rfl, h0, h1, rfl, Lib.hid (by simp), rfl, by simp [ByteArray.size], Lib.hid rfl, Below.refl _ _⟩
  case round =>
    obtain ⟨k, r, S, hk, rfl, hr0, hr1, rfl, HR, rfl, hS, HS, hb⟩ := hrel
    by_cases hlt : k < many
    · obtain ⟨D, hD, hDs, hcv⟩ := conv_one r wr
      have HD := Lib.hid hD
      have hDs2 : D.size ≤ 1 := by omega
      have HN : Hid (D ++ S = ⟨(digs (k + 1) n).toArray⟩) := by
        rw [HD.out, HS.out, mk_append, digs_front, ← HR.out]
        exact rfl
      have HZ : Hid ((D ++ S).size ≤ 4) := by
        rw [HN.out]
        show (digs (k + 1) n).toArray.size ≤ 4
        rw [List.size_toArray, digs_length]
        omega
      have HR2 : Hid (r / 10 = n / 10 ^ (k + 1)) := by
        rw [HR.out]
        show n / 10 ^ k / 10 = n / 10 ^ (k + 1)
        rw [Int.ediv_ediv_of_nonneg (Int.le_of_lt (Int.pow_pos (by omega))), Int.pow_succ]
      have hb2 : Below w.heap.size w (wr.alloc (.cells #[.int .u8 (48 + r % 10)] 5)) := hb.alloc hb.size _
      clear hD hDs
      go_wp2
      go_roundw
      case rel => exact ⟨k + 1, r / 10, D ++ S, by omega, by go_num, by omega, by omega, rfl, HR2, rfl, HZ.out, HN, hb2⟩
      case measure => simp [intOf]; omega
    · obtain rfl : k = many := by omega
      go_wp2
      go_ret
      exact ⟨by rw [← HS.out]; rfl, hb⟩
end Go.Proofs.Ytaogoednndlaeaa.Dt
