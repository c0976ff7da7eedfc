/-
  The reference's Name and Abs (layer 33's reference).
-/
import Derived.Test.YtoemjpfoddeinaaNm
namespace Go.Proofs.Ytoemjpfoddeinaa.Nm
open Go.RowKit Go.Proofs.Ytoemjpfoddeinaa

set_option maxHeartbeats 1000000 in
theorem refAbs_any (x : Int) (w : World) (h : -9223372036854775808 < x ∧ x ≤ 9223372036854775807) :
    Calls Try.prog 93 #[.int .i64 x] w fun e w' => e = .returned (.int .i64 (max x (-x))) ∧ w' = w := by
  by_cases h0 : x < 0
  · have e : IntKind.i64.wrap (-x) = -x := IntWalk.i64_in _ (by omega)
    have HM := Lib.hid (show max x (-x) = -x by omega)
    go_enter Try.func93, Try.ntmps93
    go_wp2
    go_ret
    exact ⟨ret_int HM.out.symm, rfl⟩
  · have HM := Lib.hid (show max x (-x) = x by omega)
    go_enter Try.func93, Try.ntmps93
    go_wp2
    go_ret
    exact ⟨ret_int HM.out.symm, rfl⟩

theorem byte_cases (c : Int) : (97 ≤ c ∧ c ≤ 122) ∨ (65 ≤ c ∧ c ≤ 90) ∨ (48 ≤ c ∧ c ≤ 57) ∨ c = 95 ∨ c = 45 ∨ c < 45 ∨ (45 < c ∧ c < 48) ∨ (57 < c ∧ c < 65) ∨ (90 < c ∧ c < 95) ∨ c = 96 ∨ 122 < c := by omega
set_option maxRecDepth 100000 in
set_option maxHeartbeats 4000000 in
theorem refName_any (s : ByteArray) (w : World) (hs : s.size ≤ maxLen) :
    Calls Try.prog 90 #[.string s] w fun e w' => e = .returned (.bool (nm s)) ∧ w = w' := by
  unfold maxLen at hs
  by_cases h1 : s.size < 1
  · have HB := Lib.hid (show nm s = false by
      unfold nm nameL
      rw [decide_eq_false (by simp; omega)]
      rfl)
    go_enter Try.func90, Try.ntmps90
    go_wp2
    go_ret
    exact ⟨ret_bool HB.out.symm, rfl⟩
  by_cases h2 : 40 < s.size
  · have HB := Lib.hid (show nm s = false by
      unfold nm nameL
      rw [decide_eq_false (by simp; omega)]
      rfl)
    go_enter Try.func90, Try.ntmps90
    go_wp2
    go_ret
    exact ⟨ret_bool HB.out.symm, rfl⟩
  have h0 : 0 < s.size := by omega
  have HH := Lib.hid (head_of s h0)
  go_enter Try.func90, Try.ntmps90
  go_wp2_with fail
  go_loop [3, 4, 5, 6] (fun i _ _ _ => ∃ k : Nat, k ≤ s.size ∧ i = .int .i64 k ∧ Hid (∀ c ∈ s.data.toList.take k, okB c = true) ∧ Hid (0 < k → letB s[0] = true)) (fun i _ _ _ => s.size - (intOf i).toNat)
  case atStart => exact ⟨0, Nat.zero_le _, rfl, fun c hc => by simp at hc, fun h => by omega⟩
  case round =>
    obtain ⟨k, hk, rfl, HA, HK⟩ := hrel
    by_cases hlt : k < s.size
    · have HS := Lib.hid (take_snoc s k hlt)
      have HX := Lib.hid (okB_iff s[k])
      have HY := Lib.hid (letB_iff s[k])
      have good : okB s[k] = true → (letB s[k] = true ∨ 0 < k) → Hid (∀ c ∈ s.data.toList.take (k + 1), okB c = true) ∧ Hid (0 < k + 1 → letB s[0] = true) := fun h1 h2 => by
        refine ⟨fun c hc => ?_, fun _ => ?_⟩
        · rw [HS.out, List.mem_append, List.mem_singleton] at hc
          rcases hc with hc | rfl
          · exact HA.out c hc
          · exact h1
        · rcases Nat.eq_zero_or_pos k with h | h
          · subst h
            rcases h2 with h2 | h2
            · exact h2
            · omega
          · exact HK.out h
      have HGD := Lib.hid good
      clear good
      rcases byte_cases (s[k].toNat : Int) with h | h | h | h | h | h | h | h | h | h | h
      · have h2 := HGD.out (HX.out.2 (.inl (HY.out.2 (.inl h)))) (.inl (HY.out.2 (.inl h)))
        obtain ⟨t1, t2⟩ := h
        obtain ⟨G1, G2⟩ := h2
        go_wp2
        go_round
        case rel => exact ⟨k + 1, by omega, by go_num, G1, G2⟩
        case measure => simp [intOf]; omega
      · have h2 := HGD.out (HX.out.2 (.inl (HY.out.2 (.inr h)))) (.inl (HY.out.2 (.inr h)))
        obtain ⟨t1, t2⟩ := h
        obtain ⟨G1, G2⟩ := h2
        go_wp2
        go_round
        case rel => exact ⟨k + 1, by omega, by go_num, G1, G2⟩
        case measure => simp [intOf]; omega
      · by_cases hk0 : 0 < k
        · have h2 := HGD.out (HX.out.2 (.inr (.inl h))) (.inr hk0)
          obtain ⟨t1, t2⟩ := h
          obtain ⟨G1, G2⟩ := h2
          have hk1 : ((k : Int) == 0) = false := by simp; omega
          go_wp2
          go_round
          case rel => exact ⟨k + 1, by omega, by go_num, G1, G2⟩
          case measure => simp [intOf]; omega
        · obtain rfl : k = 0 := by omega
          have HB : Hid (nm s = false) := by
            have : letB s[0] = false := by rw [Bool.eq_false_iff]; intro q; have := HY.out.1 q; omega
            unfold Hid nm nameL
            rw [HH.out, this, Bool.and_false, Bool.false_and]
          obtain ⟨t1, t2⟩ := h
          go_wp2
          go_ret
          exact ⟨ret_bool HB.out.symm, rfl⟩
      · by_cases hk0 : 0 < k
        · have h2 := HGD.out (HX.out.2 (.inr (.inr (.inl h)))) (.inr hk0)
          obtain ⟨G1, G2⟩ := h2
          have hk1 : ((k : Int) == 0) = false := by simp; omega
          go_wp2
          go_round
          case rel => exact ⟨k + 1, by omega, by go_num, G1, G2⟩
          case measure => simp [intOf]; omega
        · obtain rfl : k = 0 := by omega
          have HB : Hid (nm s = false) := by
            have : letB s[0] = false := by rw [Bool.eq_false_iff]; intro q; have := HY.out.1 q; omega
            unfold Hid nm nameL
            rw [HH.out, this, Bool.and_false, Bool.false_and]
          go_wp2
          go_ret
          exact ⟨ret_bool HB.out.symm, rfl⟩
      · by_cases hk0 : 0 < k
        · have h2 := HGD.out (HX.out.2 (.inr (.inr (.inr h)))) (.inr hk0)
          obtain ⟨G1, G2⟩ := h2
          have hk1 : ((k : Int) == 0) = false := by simp; omega
          go_wp2
          go_round
          case rel => exact ⟨k + 1, by omega, by go_num, G1, G2⟩
          case measure => simp [intOf]; omega
        · obtain rfl : k = 0 := by omega
          have HB : Hid (nm s = false) := by
            have : letB s[0] = false := by rw [Bool.eq_false_iff]; intro q; have := HY.out.1 q; omega
            unfold Hid nm nameL
            rw [HH.out, this, Bool.and_false, Bool.false_and]
          go_wp2
          go_ret
          exact ⟨ret_bool HB.out.symm, rfl⟩
      all_goals
        have HB : Hid (nm s = false) := nm_bad_at s k hlt (by
          rw [Bool.eq_false_iff]
          intro q
          rcases HX.out.1 q with q | q
          · have := HY.out.1 q; omega
          · omega)
        have t3 : ((s[k].toNat : Int) == 95) = false := by simp; omega
        have t4 : ((s[k].toNat : Int) == 45) = false := by simp; omega
        first | have u0 : decide ((s[k].toNat : Int) ≤ 122) = false := decide_eq_false (by omega) | have u0 : decide ((s[k].toNat : Int) ≤ 122) = true := decide_eq_true (by omega)
        first | have u1 : decide ((s[k].toNat : Int) ≤ 90) = false := decide_eq_false (by omega) | have u1 : decide ((s[k].toNat : Int) ≤ 90) = true := decide_eq_true (by omega)
        first | have u2 : decide ((s[k].toNat : Int) ≤ 57) = false := decide_eq_false (by omega) | have u2 : decide ((s[k].toNat : Int) ≤ 57) = true := decide_eq_true (by omega)
        try obtain ⟨t1, t2⟩ := h
        go_wp2
        go_ret
        exact ⟨ret_bool HB.out.symm, rfl⟩
    · have HB : Hid (nm s = true) := by
        have hall : s.data.toList.all okB = true := by
          rw [List.all_eq_true]
          intro c hc
          exact HA.out c (by rwa [List.take_of_length_le (by simp; omega)])
        unfold Hid nm nameL
        rw [decide_eq_true (by simp; omega), HH.out, HK.out (by omega), hall]
        rfl
      go_wp2
      go_ret
      exact ⟨ret_bool HB.out.symm, rfl⟩
end Go.Proofs.Ytoemjpfoddeinaa.Nm
