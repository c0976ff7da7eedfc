/-
  The walks of package date: number, Parse; Text outside the days.
-/
import Derived.Test.YtaogoednndlaeaaDateT1
namespace Go.Proofs.Ytaogoednndlaeaa.Dt
open Go.RowKit Go.Proofs.Ytaogoednndlaeaa

/-- is it a digit's byte? -/
def isD (c : UInt8) : Bool := decide (48 ≤ (c.toNat : Int) ∧ (c.toNat : Int) ≤ 57)
/-- the number that digits spell -/
def val (l : List UInt8) : Int := l.foldl (fun a c => 10 * a + ((c.toNat : Int) - 48)) 0
theorem val_snoc (l : List UInt8) (c : UInt8) : val (l ++ [c]) = 10 * val l + ((c.toNat : Int) - 48) := by simp [val, List.foldl_append]
theorem val_nil : val [] = 0 := rfl
theorem isD_iff (c : UInt8) : isD c = true ↔ 48 ≤ (c.toNat : Int) ∧ (c.toNat : Int) ≤ 57 := by unfold isD; exact decide_eq_true_iff
theorem val_acc (l : List UInt8) : ∀ a : Int, 0 ≤ a → (∀ c ∈ l, isD c = true) → 0 ≤ l.foldl (fun a c => 10 * a + ((c.toNat : Int) - 48)) a ∧ l.foldl (fun a c => 10 * a + ((c.toNat : Int) - 48)) a + 1 ≤ (a + 1) * 10 ^ l.length := by
  induction l with
  | nil => intro a h0 _; simp; omega
  | cons c l ih =>
    intro a h0 h
    have h1 := (isD_iff c).1 (h c (by simp))
    have h2 := ih (10 * a + ((c.toNat : Int) - 48)) (by omega) (fun x hx => h x (by simp [hx]))
    have hp : (0 : Int) ≤ 10 ^ l.length := Int.le_of_lt (Int.pow_pos (by omega))
    have h3 : (10 * a + ((c.toNat : Int) - 48) + 1) * 10 ^ l.length ≤ (10 * (a + 1)) * 10 ^ l.length := Int.mul_le_mul_of_nonneg_right (by omega) hp
    have h4 : (a + 1) * 10 ^ (l.length + 1) = (10 * (a + 1)) * 10 ^ l.length := by
      rw [Int.pow_succ, ← Int.mul_assoc, Int.mul_right_comm, Int.mul_comm (a + 1) 10]
    rw [List.foldl_cons, List.length_cons, h4]
    exact ⟨h2.1, Int.le_trans h2.2 h3⟩
theorem val_pow (l : List UInt8) (h : ∀ c ∈ l, isD c = true) : 0 ≤ val l ∧ val l < 10 ^ l.length := by
  have := val_acc l 0 (by omega) h
  rw [Int.zero_add, Int.one_mul] at this
  exact ⟨this.1, by unfold val; omega⟩
theorem val_bd (l : List UInt8) (h : ∀ c ∈ l, isD c = true) (hl : l.length ≤ 10) : 0 ≤ val l ∧ val l ≤ 9999999999 := by
  have h1 := val_pow l h
  have h2 : (10 : Int) ^ l.length ≤ 10 ^ 10 := by
    have : (10 : Nat) ^ l.length ≤ 10 ^ 10 := Nat.pow_le_pow_right (by omega) hl
    exact_mod_cast this
  omega

theorem take_snoc (s : ByteArray) (k : Nat) (h : k < s.size) : s.data.toList.take (k + 1) = s.data.toList.take k ++ [s[k]] := by
  rw [List.take_succ_eq_append_getElem (by simpa using h)]; rfl

def numB (l : List UInt8) : Bool := l.all isD
def numV (l : List UInt8) : Int := if numB l then val l else 0

theorem numB_false (s : ByteArray) (k : Nat) (h : k < s.size) (hd : isD s[k] = false) : numB s.data.toList = false := by
  unfold numB
  rw [List.all_eq_false]
  refine ⟨s[k], ?_, by simp [hd]⟩
  have hk : k < s.data.toList.length := by simpa using h
  exact List.getElem_mem hk

set_option maxHeartbeats 1000000 in
theorem number_any (s : ByteArray) (w : World) (hs : s.size ≤ 10) :
    Calls Try.prog 37 #[.string s] w fun e w' => e = .returned (.tuple #[.int .i64 (numV s.data.toList), .bool (numB s.data.toList)]) ∧ w = w' := by
  go_enter Try.func37, Try.ntmps37
  go_wp2_with fail
  go_loop [2, 4, 7] (fun a _ i => ∃ k : Nat, k ≤ s.size ∧ i = .int .i64 k ∧ a = .int .i64 (val (s.data.toList.take k)) ∧ Hid (∀ c ∈ s.data.toList.take k, isD c = true)) (fun _ _ i => s.size - (intOf i).toNat)
  case atStart => exact ⟨0, Nat.zero_le _, rfl, rfl, fun c hc => by simp at hc⟩
  case round =>
    obtain ⟨k, hk, rfl, rfl, HA⟩ := hrel
    have hv := val_bd (s.data.toList.take k) HA.out (by rw [List.length_take]; omega)
    by_cases hlt : k < s.size
    · by_cases hd : isD s[k] = true
      · have hd2 := (isD_iff s[k]).1 hd
        have HS := Lib.hid (val_snoc (s.data.toList.take k) s[k])
        have HT := Lib.hid (take_snoc s k hlt)
        have HA2 : Hid (∀ c ∈ s.data.toList.take (k + 1), isD c = true) := fun c hc => by
          rw [HT.out, List.mem_append, List.mem_singleton] at hc
          rcases hc with hc | rfl
          · exact HA.out c hc
          · exact hd
        clear hd
        go_wp2
        go_round
        case rel => exact ⟨k + 1, by omega, by go_num, by rw [HT.out, HS.out], HA2⟩
        case measure => simp [intOf]; omega
      · have hd1 : isD s[k] = false := by simpa using hd
        have HN := Lib.hid (numB_false s k hlt hd1)
        have hd2 : ¬ (48 ≤ (s[k].toNat : Int) ∧ (s[k].toNat : Int) ≤ 57) := fun g => hd ((isD_iff s[k]).2 g)
        by_cases hlo : (s[k].toNat : Int) < 48
        all_goals
          have hd3 : (s[k].toNat : Int) < 48 ∨ 57 < (s[k].toNat : Int) := by omega
          clear hd hd1 hd2
          go_wp2
          go_ret2
          exact ⟨by rw [numV, HN.out]; rfl, rfl⟩
    · have HF := Lib.hid (show s.data.toList.take k = s.data.toList from List.take_of_length_le (by simp; omega))
      go_wp2
      go_ret2
      have hall : numB s.data.toList = true := by
        unfold numB
        rw [List.all_eq_true, ← HF.out]
        exact HA.out
      exact ⟨by rw [numV, hall, HF.out]; rfl, rfl⟩

/-- is it a text of the form of a date? -/
def frm (l : List UInt8) : Bool := l.length == 10 && (l.getD 4 0 == 45 && l.getD 7 0 == 45) && (numB (l.take 4) && numB ((l.drop 5).take 2) && numB (l.drop 8))
def psV (l : List UInt8) : Int := if frm l then ofV (val (l.take 4)) (val ((l.drop 5).take 2)) (val (l.drop 8)) else 0
def psE (l : List UInt8) : Int := if frm l then ofE (val (l.take 4)) (val ((l.drop 5).take 2)) (val (l.drop 8)) else 12

theorem ext_list (s : ByteArray) (a b : Nat) : (s.extract a b).data.toList = (s.data.toList.drop a).take (b - a) := by
  simp [ByteArray.data_extract, Array.toList_extract, List.extract_eq_take_drop]

theorem number_sub (s : ByteArray) (l : List UInt8) (w : World) (hs : s.size ≤ 10) (hl : s.data.toList = l) :
    Calls Try.prog 37 #[.string s] w fun e w' => e = .returned (.tuple #[.int .i64 (numV l), .bool (numB l)]) ∧ w = w' := by
  subst hl
  exact number_any s w hs

theorem ps_of (l : List UInt8) (h : frm l = true) (h1 : numB (l.take 4) = true) (h2 : numB ((l.drop 5).take 2) = true) (h3 : numB (l.drop 8) = true) :
    psV l = ofV (numV (l.take 4)) (numV ((l.drop 5).take 2)) (numV (l.drop 8)) ∧ psE l = ofE (numV (l.take 4)) (numV ((l.drop 5).take 2)) (numV (l.drop 8)) := by
  unfold psV psE numV
  rw [h, h1, h2, h3]
  exact ⟨rfl, rfl⟩
theorem ps_no (l : List UInt8) (h : frm l = false) : psV l = 0 ∧ psE l = 12 := by
  unfold psV psE
  rw [h]
  exact ⟨rfl, rfl⟩

set_option maxHeartbeats 1000000 in
theorem parse_any (s : ByteArray) (w : World) (hs : s.size ≤ maxLen) :
    Calls Try.prog 26 #[.string s] w fun e w' => e = .returned (.tuple #[.int .i64 (psV s.data.toList), .int .i64 (psE s.data.toList)]) ∧ Below w.heap.size w w' := by
  unfold maxLen at hs
  by_cases h10 : s.size = 10
  · have i4 : 4 < s.size := by omega
    have i7 : 7 < s.size := by omega
    have e4 : s.data.toList.getD 4 0 = s[4]'i4 := by simp [List.getD, h10]; rfl
    have e7 : s.data.toList.getD 7 0 = s[7]'i7 := by simp [List.getD, h10]; rfl
    have hlen : s.data.toList.length = 10 := by simpa using h10
    have t10 : ((s.size : Int) != 10) = false := by rw [h10]; rfl
    by_cases h4 : s[4]'i4 = 45
    · have t4 : (((s[4]'i4).toNat : Int) != 45) = false := by rw [h4]; rfl
      by_cases h7 : s[7]'i7 = 45
      · have t7 : (((s[7]'i7).toNat : Int) != 45) = false := by rw [h7]; rfl
        have z0 : 4 ≤ s.size := by omega
        have z1 : 7 ≤ s.size := by omega
        have z2 : 8 ≤ s.size := by omega
        have hc : frm s.data.toList = (numB (s.data.toList.take 4) && numB ((s.data.toList.drop 5).take 2) && numB (s.data.toList.drop 8)) := by
          rw [frm, hlen, e4, e7, h4, h7]
          rfl
        have HC := Lib.hid hc
        have H10 := Lib.hid h10
        clear hc e4 e7 h4 h7 hlen h10
        go_enter Try.func26, Try.ntmps26
        have E1 := Lib.hid (ext_list s 0 4)
        have E2 := Lib.hid (ext_list s 5 7)
        have E3 := Lib.hid (show (s.extract 8 s.size).data.toList = s.data.toList.drop 8 by rw [ext_list, H10.out]; exact List.take_of_length_le (by simp; have := H10.out; omega))
        have S1 := Lib.hid (show (s.extract 0 4).size ≤ 10 by simp [ByteArray.size_extract]; omega)
        have S2 := Lib.hid (show (s.extract 5 7).size ≤ 10 by simp [ByteArray.size_extract]; omega)
        have S3 := Lib.hid (show (s.extract 8 s.size).size ≤ 10 by have := H10.out; simp [ByteArray.size_extract]; omega)
        go_wp2_with fail
        refine (number_sub _ (s.data.toList.take 4) _ S1.out E1.out).mono ?_
        rintro e w' ⟨rfl, rfl⟩
        go_wp2_with fail
        refine (number_sub _ ((s.data.toList.drop 5).take 2) _ S2.out E2.out).mono ?_
        rintro e w' ⟨rfl, rfl⟩
        go_wp2_with fail
        refine (number_sub _ (s.data.toList.drop 8) _ S3.out E3.out).mono ?_
        rintro e w' ⟨rfl, rfl⟩
        generalize hx1 : numB (s.data.toList.take 4) = x1
        generalize hx2 : numB ((s.data.toList.drop 5).take 2) = x2
        generalize hx3 : numB (s.data.toList.drop 8) = x3
        have HX1 := Lib.hid hx1
        have HX2 := Lib.hid hx2
        have HX3 := Lib.hid hx3
        clear hx1 hx2 hx3
        cases x1
        · have HP := Lib.hid (ps_no s.data.toList (by rw [HC.out, HX1.out]; rfl))
          go_wp2
          go_ret2
          exact ⟨ret_pair HP.out.1.symm HP.out.2.symm, Below.refl _ _⟩
        cases x2
        · have HP := Lib.hid (ps_no s.data.toList (by rw [HC.out, HX1.out, HX2.out]; rfl))
          go_wp2
          go_ret2
          exact ⟨ret_pair HP.out.1.symm HP.out.2.symm, Below.refl _ _⟩
        cases x3
        · have HP := Lib.hid (ps_no s.data.toList (by rw [HC.out, HX1.out, HX2.out, HX3.out]; rfl))
          go_wp2
          go_ret2
          exact ⟨ret_pair HP.out.1.symm HP.out.2.symm, Below.refl _ _⟩
        have HP := Lib.hid (ps_of s.data.toList (by rw [HC.out, HX1.out, HX2.out, HX3.out]; rfl) HX1.out HX2.out HX3.out)
        go_wp2_with fail
        refine (of_any _ _ _ _).mono ?_
        rintro e w1 ⟨rfl, hb1⟩
        go_wp2
        go_ret2
        exact ⟨ret_pair HP.out.1.symm HP.out.2.symm, hb1⟩
      · have t7 : (((s[7]'i7).toNat : Int) != 45) = true := by rw [bne_iff_ne]; exact fun g => h7 (by rw [← UInt8.toNat_inj]; exact_mod_cast g)
        have HP := Lib.hid (ps_no s.data.toList (by rw [frm, hlen, e4, e7, h4, beq_eq_false_iff_ne.2 h7]; rfl))
        clear e4 e7 h4 h7 hlen h10
        go_enter Try.func26, Try.ntmps26
        go_wp2
        go_ret2
        exact ⟨ret_pair HP.out.1.symm HP.out.2.symm, Below.refl _ _⟩
    · have t4 : (((s[4]'i4).toNat : Int) != 45) = true := by rw [bne_iff_ne]; exact fun g => h4 (by rw [← UInt8.toNat_inj]; exact_mod_cast g)
      have HP := Lib.hid (ps_no s.data.toList (by rw [frm, hlen, e4, e7, beq_eq_false_iff_ne.2 h4]; rfl))
      clear e4 e7 h4 hlen h10
      go_enter Try.func26, Try.ntmps26
      go_wp2
      go_ret2
      exact ⟨ret_pair HP.out.1.symm HP.out.2.symm, Below.refl _ _⟩
  · have t10 : ((s.size : Int) != 10) = true := by rw [bne_iff_ne]; omega
    have HP := Lib.hid (ps_no s.data.toList (by
      have e : (s.data.toList.length == 10) = false := by rw [beq_eq_false_iff_ne]; simpa using h10
      rw [frm, e]
      rfl))
    clear h10
    go_enter Try.func26, Try.ntmps26
    go_wp2
    go_ret2
    exact ⟨ret_pair HP.out.1.symm HP.out.2.symm, Below.refl _ _⟩

set_option maxHeartbeats 400000 in
theorem text_no (n : Int) (w : World) (h : n < 0 ∨ 99999 < n) :
    Calls Try.prog 24 #[.int .i64 n] w fun e w' => e = .returned (.tuple #[.string ⟨#[]⟩, .int .i64 2]) ∧ w = w' := by
  have H := Lib.hid h
  clear h
  go_enter Try.func24, Try.ntmps24
  go_wp2_with fail
  refine (parts_no n _ H.out).mono ?_
  rintro e w1 ⟨rfl, rfl⟩
  go_wp2
  go_ret2
  exact ⟨rfl, rfl⟩
end Go.Proofs.Ytaogoednndlaeaa.Dt
