/-
  Names, and comparing strings: the walks of observable.letter, observable.Name, cmp.isNaN, cmp.Compare at strings.
-/
import Derived.Test.YtoemjpfoddeinaaProg
import Derived.WalkKit
import Derived.WalkSpells
import Derived.WalkLawsBesides
import Derived.Lib.Hide
namespace Go.Proofs.Ytoemjpfoddeinaa.Nm
open Go.RowKit Go.Proofs.Ytoemjpfoddeinaa

theorem ret_int {k : IntKind} {a b : Int} (h : a = b) : Ending.returned (.int k a) = .returned (.int k b) := by rw [h]
theorem ret_bool {a b : Bool} (h : a = b) : Ending.returned (.bool a) = .returned (.bool b) := by rw [h]

/-- is it a letter's byte? -/
def letB (c : UInt8) : Bool := decide ((97 ≤ (c.toNat : Int) ∧ (c.toNat : Int) ≤ 122) ∨ (65 ≤ (c.toNat : Int) ∧ (c.toNat : Int) ≤ 90))
theorem letB_iff (c : UInt8) : letB c = true ↔ (97 ≤ (c.toNat : Int) ∧ (c.toNat : Int) ≤ 122) ∨ (65 ≤ (c.toNat : Int) ∧ (c.toNat : Int) ≤ 90) := by unfold letB; exact decide_eq_true_iff
/-- may the byte stand in a name? -/
def okB (c : UInt8) : Bool := letB c || decide ((48 ≤ (c.toNat : Int) ∧ (c.toNat : Int) ≤ 57) ∨ (c.toNat : Int) = 95 ∨ (c.toNat : Int) = 45)
theorem okB_iff (c : UInt8) : okB c = true ↔ letB c = true ∨ (48 ≤ (c.toNat : Int) ∧ (c.toNat : Int) ≤ 57) ∨ (c.toNat : Int) = 95 ∨ (c.toNat : Int) = 45 := by unfold okB; rw [Bool.or_eq_true, decide_eq_true_iff]
/-- is it a name? -/
def nameL (l : List UInt8) : Bool := decide (1 ≤ l.length ∧ l.length ≤ 40) && letB (l.headD 0) && l.all okB
def nm (s : ByteArray) : Bool := nameL s.data.toList

set_option maxHeartbeats 400000 in
theorem letter_any (c : UInt8) (w : World) :
    Calls Try.prog 83 #[.int .u8 (c.toNat : Int)] w fun e w' => e = .returned (.bool (letB c)) ∧ w = w' := by
  have hx := letB_iff c
  by_cases h1 : 97 ≤ (c.toNat : Int)
  · by_cases h2 : (c.toNat : Int) ≤ 122
    · have hb : letB c = true := hx.2 (.inl ⟨h1, h2⟩)
      rw [hb]
      clear hx hb
      go_enter Try.func83, Try.ntmps83
      go_wp2
      go_ret
      exact ⟨rfl, rfl⟩
    · have hb : letB c = false := by rw [Bool.eq_false_iff]; intro k; have := hx.1 k; omega
      have h3 : ¬ (c.toNat : Int) ≤ 90 := by omega
      have h4 : 65 ≤ (c.toNat : Int) := by omega
      rw [hb]
      clear hx hb
      go_enter Try.func83, Try.ntmps83
      go_wp2
      go_ret
      exact ⟨ret_bool (by simp), rfl⟩
  · by_cases h2 : 65 ≤ (c.toNat : Int)
    · by_cases h3 : (c.toNat : Int) ≤ 90
      · have hb : letB c = true := hx.2 (.inr ⟨h2, h3⟩)
        rw [hb]
        clear hx hb
        go_enter Try.func83, Try.ntmps83
        go_wp2
        go_ret
        exact ⟨ret_bool (by simp), rfl⟩
      · have hb : letB c = false := by rw [Bool.eq_false_iff]; intro k; have := hx.1 k; omega
        rw [hb]
        clear hx hb
        go_enter Try.func83, Try.ntmps83
        go_wp2
        go_ret
        exact ⟨ret_bool (by simp), rfl⟩
    · have hb : letB c = false := by rw [Bool.eq_false_iff]; intro k; have := hx.1 k; omega
      rw [hb]
      clear hx hb
      go_enter Try.func83, Try.ntmps83
      go_wp2
      go_ret
      exact ⟨rfl, rfl⟩

theorem take_snoc (s : ByteArray) (k : Nat) (h : k < s.size) : s.data.toList.take (k + 1) = s.data.toList.take k ++ [s[k]] := by
  rw [List.take_succ_eq_append_getElem (by simpa using h)]; rfl
theorem head_of (s : ByteArray) (h : 0 < s.size) : s.data.toList.headD 0 = s[0] := by
  have hl : 0 < s.data.toList.length := by simpa using h
  rw [List.headD_eq_head?_getD, List.head?_eq_getElem?, List.getElem?_eq_getElem hl]
  rfl
theorem nm_bad_at (s : ByteArray) (k : Nat) (h : k < s.size) (hd : okB s[k] = false) : nm s = false := by
  have hl : k < s.data.toList.length := by simpa using h
  have hm : s[k] ∈ s.data.toList := List.getElem_mem hl
  have ha : s.data.toList.all okB = false := by rw [List.all_eq_false]; exact ⟨s[k], hm, by simp [hd]⟩
  unfold nm nameL
  rw [ha, Bool.and_false]

set_option maxHeartbeats 1000000 in
theorem name_any (s : ByteArray) (w : World) (hs : s.size ≤ maxLen) :
    Calls Try.prog 52 #[.string s] w fun e w' => e = .returned (.bool (nm s)) ∧ w = w' := by
  unfold maxLen at hs
  by_cases h1 : s.size < 1
  · have HB := Lib.hid (show nm s = false by
      unfold nm nameL
      rw [decide_eq_false (by simp; omega)]
      rfl)
    go_enter Try.func52, Try.ntmps52
    go_wp2
    go_ret
    exact ⟨ret_bool HB.out.symm, rfl⟩
  by_cases h2 : 40 < s.size
  · have HB := Lib.hid (show nm s = false by
      unfold nm nameL
      rw [decide_eq_false (by simp; omega)]
      rfl)
    go_enter Try.func52, Try.ntmps52
    go_wp2
    go_ret
    exact ⟨ret_bool HB.out.symm, rfl⟩
  have h0 : 0 < s.size := by omega
  have HH := Lib.hid (head_of s h0)
  by_cases hl : letB s[0] = true
  · have HL := Lib.hid hl
    clear hl
    go_enter Try.func52, Try.ntmps52
    go_wp2_with fail
    refine (letter_any s[0] _).mono ?_
    rintro e w' ⟨rfl, rfl⟩
    rw [HL.out]
    go_wp2_with fail
    go_loop [3, 4, 21] (fun _ _ i => ∃ k : Nat, k ≤ s.size ∧ i = .int .i64 k ∧ Hid (∀ c ∈ s.data.toList.take k, okB c = true)) (fun _ _ i => s.size - (intOf i).toNat)
    case atStart => exact ⟨0, Nat.zero_le _, rfl, fun c hc => by simp at hc⟩
    case round =>
      obtain ⟨k, hk, rfl, HA⟩ := hrel
      by_cases hlt : k < s.size
      · have HS := Lib.hid (take_snoc s k hlt)
        have hx := okB_iff s[k]
        by_cases hlk : letB s[k] = true
        · have HA2 : Hid (∀ c ∈ s.data.toList.take (k + 1), okB c = true) := fun c hc => by
            rw [HS.out, List.mem_append, List.mem_singleton] at hc
            rcases hc with hc | rfl
            · exact HA.out c hc
            · exact hx.2 (.inl hlk)
          have HLK := Lib.hid hlk
          clear hx hlk
          go_wp2_with fail
          refine (letter_any s[k] _).mono ?_
          rintro e w' ⟨rfl, rfl⟩
          rw [HLK.out]
          go_wp2
          go_round
          case rel => exact ⟨k + 1, by omega, by go_num, HA2⟩
          case measure => simp [intOf]; omega
        · have hlk2 : letB s[k] = false := by simpa using hlk
          have HLK := Lib.hid hlk2
          have hok : (okB s[k] = true ∧ ((48 ≤ (s[k].toNat : Int) ∧ (s[k].toNat : Int) ≤ 57) ∨ (57 < (s[k].toNat : Int) ∧ ((s[k].toNat : Int) != 95) = false) ∨ ((s[k].toNat : Int) < 48 ∧ ((s[k].toNat : Int) != 95) = true ∧ ((s[k].toNat : Int) != 45) = false))) ∨
              (okB s[k] = false ∧ (((s[k].toNat : Int) < 48 ∧ ((s[k].toNat : Int) != 95) = true ∧ ((s[k].toNat : Int) != 45) = true) ∨ (57 < (s[k].toNat : Int) ∧ ((s[k].toNat : Int) != 95) = true ∧ ((s[k].toNat : Int) != 45) = true))) := by
            simp only [bne_eq_false_iff_eq, bne_iff_ne]
            by_cases g : (48 ≤ (s[k].toNat : Int) ∧ (s[k].toNat : Int) ≤ 57) ∨ (s[k].toNat : Int) = 95 ∨ (s[k].toNat : Int) = 45
            · exact .inl ⟨hx.2 (.inr g), by omega⟩
            · exact .inr ⟨by rw [Bool.eq_false_iff]; intro q; rcases hx.1 q with q | q; exact hlk q; exact g q, by omega⟩
          clear hx hlk hlk2
          rcases hok with ⟨hb, hok⟩ | ⟨hb, hok⟩
          · have HA2 : Hid (∀ c ∈ s.data.toList.take (k + 1), okB c = true) := fun c hc => by
              rw [HS.out, List.mem_append, List.mem_singleton] at hc
              rcases hc with hc | rfl
              · exact HA.out c hc
              · exact hb
            clear hb
            rcases hok with ⟨t1, t2⟩ | ⟨t1, t2⟩ | ⟨t1, t2, t3⟩
            all_goals
              go_wp2_with fail
              refine (letter_any s[k] _).mono ?_
              rintro e w' ⟨rfl, rfl⟩
              rw [HLK.out]
              go_wp2
              go_round
              case rel => exact ⟨k + 1, by omega, by go_num, HA2⟩
              case measure => simp [intOf]; omega
          · have HB := Lib.hid (nm_bad_at s k hlt hb)
            clear hb
            rcases hok with ⟨t1, t2, t3⟩ | ⟨t1, t2, t3⟩
            all_goals
              go_wp2_with fail
              refine (letter_any s[k] _).mono ?_
              rintro e w' ⟨rfl, rfl⟩
              rw [HLK.out]
              go_wp2
              go_ret
              exact ⟨ret_bool HB.out.symm, rfl⟩
      · have HB : Hid (nm s = true) := by
          have hall : s.data.toList.all okB = true := by
            rw [List.all_eq_true]
            intro c hc
            exact HA.out c (by rwa [List.take_of_length_le (by simp; omega)])
          unfold Hid nm nameL
          rw [decide_eq_true (by simp; omega), HH.out, HL.out, hall]
          rfl
        go_wp2
        go_ret
        exact ⟨ret_bool HB.out.symm, rfl⟩
  · have hl2 : letB s[0] = false := by simpa using hl
    have HB := Lib.hid (show nm s = false by
      unfold nm nameL
      rw [HH.out, hl2, Bool.and_false, Bool.false_and])
    have HL := Lib.hid hl2
    clear hl hl2
    go_enter Try.func52, Try.ntmps52
    go_wp2_with fail
    refine (letter_any s[0] _).mono ?_
    rintro e w' ⟨rfl, rfl⟩
    rw [HL.out]
    go_wp2
    go_ret
    exact ⟨ret_bool HB.out.symm, rfl⟩

/-! ### comparing strings -/
set_option maxHeartbeats 400000 in
theorem isNaN_any (s : ByteArray) (w : World) :
    Calls Try.prog 95 #[.string s] w fun e w' => e = .returned (.bool false) ∧ w = w' := by
  go_enter Try.func95, Try.ntmps95
  go_wp2
  go_ret
  exact ⟨ret_bool (by simp), rfl⟩

/-- what cmp.Compare says of two strings -/
def cmpS (a b : ByteArray) : Int := if Op.bytesLess a.toList b.toList then -1 else if Op.bytesLess a.toList b.toList || a.toList == b.toList then 0 else 1

set_option maxHeartbeats 400000 in
theorem compare_any (a b : ByteArray) (w : World) :
    Calls Try.prog 78 #[.string a, .string b] w fun e w' => e = .returned (.int .i64 (cmpS a b)) ∧ w = w' := by
  have hc : (Op.bytesLess a.toList b.toList = true ∧ cmpS a b = -1) ∨ (Op.bytesLess a.toList b.toList = false ∧ (a.toList == b.toList) = true ∧ cmpS a b = 0) ∨ (Op.bytesLess a.toList b.toList = false ∧ (a.toList == b.toList) = false ∧ cmpS a b = 1) := by
    unfold cmpS
    cases h1 : Op.bytesLess a.toList b.toList <;> cases h2 : (a.toList == b.toList) <;> simp
  rcases hc with ⟨h1, h3⟩ | ⟨h1, h2, h3⟩ | ⟨h1, h2, h3⟩
  all_goals
    have H3 := Lib.hid h3
    clear h3
    go_enter Try.func78, Try.ntmps78
    go_wp2_with fail
    refine (isNaN_any _ _).mono ?_
    rintro e w' ⟨rfl, rfl⟩
    go_wp2_with fail
    refine (isNaN_any _ _).mono ?_
    rintro e w' ⟨rfl, rfl⟩
    go_wp2
    go_ret
    exact ⟨by rw [H3.out]; rfl, rfl⟩
end Go.Proofs.Ytoemjpfoddeinaa.Nm
