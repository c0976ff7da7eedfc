/-
  The walks of the laws DateWords and DateOrder.
-/
import Derived.Test.YtaogoednndlaeaaDatePlain2
import Derived.BigQuiet
import Derived.Deep.QuietTactic
namespace Go.Proofs.Ytaogoednndlaeaa.Dt
open Go.RowKit Go.Proofs.Ytaogoednndlaeaa

theorem toList_text (l : List UInt8) : (⟨l.toArray⟩ : ByteArray).toList = l := by rw [ByteArray.toList_eq]
theorem size_text (y m d : Int) : (⟨(textL y m d).toArray⟩ : ByteArray).size = 10 := by
  show (textL y m d).toArray.size = 10
  rw [List.size_toArray, textL_length]

theorem psE_cases (l : List UInt8) : psE l = 0 ∨ (psV l = 0 ∧ psE l = 2) ∨ (psV l = 0 ∧ psE l = 12) := by
  unfold psE psV
  split
  · unfold ofE ofV
    split
    · exact .inl rfl
    · exact .inr (.inl ⟨rfl, rfl⟩)
  · exact .inr (.inr ⟨rfl, rfl⟩)

/-- the second half of the law: what Parse says of s -/
theorem parse_uni (s : ByteArray) (hs : s.size ≤ maxLen) :
    (∃ g : Int, (g = 2 ∨ g = 12) ∧ ∀ w : World, Calls Try.prog 26 #[.string s] w fun e w' => e = .returned (.tuple #[.int .i64 0, .int .i64 g]) ∧ Below w.heap.size w w') ∨
    (∃ n : Int, ∃ t : ByteArray, t = s ∧ (∀ w : World, Calls Try.prog 26 #[.string s] w fun e w' => e = .returned (.tuple #[.int .i64 n, .int .i64 0]) ∧ Below w.heap.size w w') ∧
      (∀ w : World, Calls Try.prog 24 #[.int .i64 n] w fun e w' => e = .returned (.tuple #[.string t, .int .i64 0]) ∧ Below w.heap.size w w')) := by
  rcases psE_cases s.data.toList with h | h | h
  · obtain ⟨y, m, d, hD, hn, ht⟩ := ps_ok h
    refine .inr ⟨psV s.data.toList, ⟨(textL y m d).toArray⟩, ?_, fun w => parse_at s _ 0 w hs ⟨rfl, h⟩, fun w => text_yes y m d _ w hD hn⟩
    rw [ht]
  · exact .inl ⟨2, .inl rfl, fun w => parse_at s 0 2 w hs h⟩
  · exact .inl ⟨12, .inr rfl, fun w => parse_at s 0 12 w hs h⟩

/-- Text at any number -/
theorem text_any (n : Int) (w : World) :
    Calls Try.prog 24 #[.int .i64 n] w fun e w' => ∃ (a : ByteArray) (g : Int), e = .returned (.tuple #[.string a, .int .i64 g]) ∧ Below w.heap.size w w' := by
  by_cases h : n < 0 ∨ 99999 < n
  · refine (text_no n w h).mono ?_
    rintro e w' ⟨rfl, rfl⟩
    exact ⟨_, _, rfl, Below.refl _ _⟩
  · obtain ⟨y, m, d, hD⟩ := date_exists n (by omega) (by omega)
    refine (text_yes y m d n w hD (by omega)).mono ?_
    rintro e w' ⟨rfl, hb⟩
    exact ⟨_, _, rfl, hb⟩

/-- Text and Parse at a day, the texts under names -/
theorem text_facts (n : Int) (h0 : 0 ≤ n) (h1 : n ≤ 99999) : ∃ A B : ByteArray,
    (∀ w : World, Calls Try.prog 24 #[.int .i64 n] w fun e w' => e = .returned (.tuple #[.string A, .int .i64 0]) ∧ Below w.heap.size w w') ∧
    (∀ w : World, Calls Try.prog 24 #[.int .i64 (n / 2)] w fun e w' => e = .returned (.tuple #[.string B, .int .i64 0]) ∧ Below w.heap.size w w') ∧
    (∀ w : World, Calls Try.prog 26 #[.string A] w fun e w' => e = .returned (.tuple #[.int .i64 n, .int .i64 0]) ∧ Below w.heap.size w w') ∧
    Op.bytesLess B.toList A.toList = decide (n / 2 < n) ∧ A.size = 10 := by
  obtain ⟨y, m, d, hD⟩ := date_exists n h0 h1
  obtain ⟨y2, m2, d2, hD2⟩ := date_exists (n / 2) (by omega) (by omega)
  refine ⟨⟨(textL y m d).toArray⟩, ⟨(textL y2 m2 d2).toArray⟩, fun w => text_yes y m d n w hD h1, fun w => text_yes y2 m2 d2 _ w hD2 (by omega), fun w => ?_, ?_, size_text y m d⟩
  · exact parse_at _ _ _ w (by rw [size_text]; unfold maxLen; omega) (ps_text hD h1)
  · rw [toList_text, toList_text]
    exact text_less hD2 hD

set_option maxRecDepth 100000 in
set_option maxHeartbeats 4000000 in
theorem words_walk (n : Int) (_wn : (Lit.int .i64 n).wf = true) (s : ByteArray) (hs : s.size ≤ maxLen) (w : World) :
    Calls Try.prog 10 #[.int .i64 n, .string s] w fun e w' => e = .returned (.bool true) ∧ Below w.heap.size w w' := by
  have hU := parse_uni s hs
  clear hs _wn
  by_cases h : n < 0 ∨ 99999 < n
  · have H := Lib.hid h
    have hr : (decide (0 ≤ n) && decide (n ≤ 99999)) = false := by
      rw [Bool.and_eq_false_iff, decide_eq_false_iff_not, decide_eq_false_iff_not]
      omega
    by_cases h0 : 0 ≤ n
    all_goals
      have h1 : n < 0 ∨ 99999 < n := h
      clear h
      go_enter Try.func10, Try.ntmps10
      go_wp2_with fail
      refine (alive_any _).mono ?_
      rintro e w1 ⟨rfl, hb1⟩
      go_wp2_with fail
      refine (text_no n _ H.out).mono ?_
      rintro e w' ⟨rfl, rfl⟩
      go_wp2_with fail
      refine (text_any _ _).mono ?_
      rintro e w3 ⟨a, g, rfl, hb3⟩
      have cc := bt hb1 hb3 (Nat.le_refl _)
      rcases hU with ⟨g, hg, hp⟩ | ⟨z, t, rfl, hp, ht⟩
      · have HP2 := Lib.hid hp
        clear hp
        go_wp2_with fail
        refine (HP2.out _).mono ?_
        rintro e w8 ⟨rfl, hb8⟩
        have c8 := bt cc hb8 (Nat.le_refl _)
        rcases hg with rfl | rfl
        all_goals
          go_wp2
          go_ret
          exact ⟨rfl, c8⟩
      · have HP2 := Lib.hid hp
        have HT2 := Lib.hid ht
        clear hp ht
        go_wp2_with fail
        refine (HP2.out _).mono ?_
        rintro e w8 ⟨rfl, hb8⟩
        have c8 := bt cc hb8 (Nat.le_refl _)
        go_wp2_with fail
        refine (HT2.out _).mono ?_
        rintro e w9 ⟨rfl, hb9⟩
        have c9 := bt c8 hb9 (Nat.le_refl _)
        go_wp2
        go_ret
        exact ⟨rfl, c9⟩
  · have hn0 : 0 ≤ n := by omega
    have hn1 : n ≤ 99999 := by omega
    clear h
    obtain ⟨A, B, hA, hB, hP, hl, hz⟩ := text_facts n hn0 hn1
    have HA := Lib.hid hA
    have HB := Lib.hid hB
    have HP := Lib.hid hP
    have hz10 : ((A.size : Int) != 10) = false := by rw [hz]; rfl
    clear hA hB hP hz
    go_enter Try.func10, Try.ntmps10
    go_wp2_with fail
    refine (alive_any _).mono ?_
    rintro e w1 ⟨rfl, hb1⟩
    go_wp2_with fail
    refine (HA.out _).mono ?_
    rintro e w2 ⟨rfl, hb2⟩
    have c2 := bt hb1 hb2 (Nat.le_refl _)
    go_wp2_with fail
    refine (HB.out _).mono ?_
    rintro e w3 ⟨rfl, hb3⟩
    have c3 := bt c2 hb3 (Nat.le_refl _)
    go_wp2_with fail
    refine (HP.out _).mono ?_
    rintro e w4 ⟨rfl, hb4⟩
    have cc := bt c3 hb4 (Nat.le_refl _)
    rcases hU with ⟨g, hg, hp⟩ | ⟨z, t, rfl, hp, ht⟩
    · have HP2 := Lib.hid hp
      clear hp
      go_wp2_with fail
      refine (HP2.out _).mono ?_
      rintro e w8 ⟨rfl, hb8⟩
      have c8 := bt cc hb8 (Nat.le_refl _)
      rcases hg with rfl | rfl
      all_goals
        go_wp2
        go_ret
        exact ⟨rfl, c8⟩
    · have HP2 := Lib.hid hp
      have HT2 := Lib.hid ht
      clear hp ht
      go_wp2_with fail
      refine (HP2.out _).mono ?_
      rintro e w8 ⟨rfl, hb8⟩
      have c8 := bt cc hb8 (Nat.le_refl _)
      go_wp2_with fail
      refine (HT2.out _).mono ?_
      rintro e w9 ⟨rfl, hb9⟩
      have c9 := bt c8 hb9 (Nat.le_refl _)
      go_wp2
      go_ret
      exact ⟨rfl, c9⟩
end Go.Proofs.Ytaogoednndlaeaa.Dt
