/-
  The walk of the law ScheduleSteps.
-/
import Derived.Test.YtainmmdlbajpnaaScI
import Derived.Test.YtainmmdlbajpnaaScO
namespace Go.Proofs.Ytainmmdlbajpnaa.Sc
open Go.RowKit Go.Proofs.Ytainmmdlbajpnaa Go.Proofs.Ytainmmdlbajpnaa.Ls Go.Proofs.Ytainmmdlbajpnaa.Kb
open Go.Proofs.Ytainmmdlbajpnaa.Dt hiding ret_bool ret_int

theorem am_at (s : Sch) (y m d : Int) (N k : Nat) (w : World) (hY : DYes s y m d N) (h1 : 1 ≤ k) (h2 : k ≤ N) :
    Calls Try.prog 13 #[.int .i64 s.from, .int .i64 ((k : Int) * s.step), .bool s.last] w fun e w' => e = .returned (.tuple #[.int .i64 (vk y m d s.step s.last k), .int .i64 0]) ∧ Below w.heap.size w w' := by
  obtain ⟨g0, g1, g2, g3, g4, g5, g6, g7⟩ := sch_facts hY.ok
  have hf : s.from ≤ 99999 := by
    unfold Sch.from
    split <;> omega
  refine (am y m d s.from ((k : Int) * s.step) s.last w hY.dt hf).mono ?_
  rintro e w' ⟨g, rfl, ho, hb⟩
  have hk : addOk y m d ((k : Int) * s.step) s.last = true := (hY.ct.all k h1 h2).1
  rcases ho with ⟨_, rfl⟩ | ⟨h, _⟩
  · exact ⟨rfl, hb⟩
  · rw [hk] at h
    cases h

/-- the days of a description in order -/
theorem vk_zero {s : Sch} {y m d : Int} {N : Nat} (hY : DYes s y m d N) : vk y m d s.step s.last 0 = s.from ∧ ok y m d s.step s.last 0 = true := by
  obtain ⟨g0, g1, g2, g3, g4, g5, g6, g7⟩ := sch_facts hY.ok
  have hf : s.from ≤ 99999 := by
    unfold Sch.from
    split <;> omega
  have := add_zero (last := s.last) hY.dt hf
  unfold vk ok
  simp only [Int.ofNat_zero, Int.zero_mul]
  exact ⟨this.2, this.1⟩
theorem ok_le {s : Sch} {y m d : Int} {N k : Nat} (hY : DYes s y m d N) (hk : k ≤ N) : ok y m d s.step s.last k = true := by
  cases k with
  | zero => exact (vk_zero hY).2
  | succ k => exact (hY.ct.all (k + 1) (by omega) hk).1
theorem vk_up {s : Sch} {y m d : Int} {N k : Nat} (hY : DYes s y m d N) (hk : k + 1 ≤ N) (hb : s.back = false) : vk y m d s.step s.last k < vk y m d s.step s.last (k + 1) := by
  obtain ⟨g0, g1, g2, g3, g4, g5, g6, g7⟩ := sch_facts hY.ok
  refine add_mono hY.dt (ok_le hY (by omega)) (ok_le hY hk) ?_
  have hs : s.step = s.Mo := by unfold Sch.step; rw [hb]; rfl
  rw [hs]
  exact Int.mul_lt_mul_of_pos_right (by omega) (by omega)
theorem vk_down {s : Sch} {y m d : Int} {N k : Nat} (hY : DYes s y m d N) (hk : k + 1 ≤ N) (hb : s.back = true) : vk y m d s.step s.last (k + 1) < vk y m d s.step s.last k := by
  obtain ⟨g0, g1, g2, g3, g4, g5, g6, g7⟩ := sch_facts hY.ok
  refine add_mono hY.dt (ok_le hY hk) (ok_le hY (by omega)) ?_
  have hs : s.step = -s.Mo := by unfold Sch.step; rw [hb]; rfl
  rw [hs, Int.mul_neg, Int.mul_neg]
  have := Int.mul_lt_mul_of_pos_right (show (k : Int) < ((k + 1 : Nat) : Int) by omega) (show 0 < s.Mo by omega)
  omega

theorem dl_len (s : Sch) (y m d : Int) (n : Nat) : (dL s y m d n).length = n + 2 := len_datesL _ _ _ _ _ _ _ _ _
theorem dl_zero (s : Sch) (y m d : Int) (n : Nat) : (dL s y m d n).getD 0 0 = s.S := by
  unfold dL
  rw [List.getD_eq_getElem?_getD, at_zero]
  rfl
theorem dl_last (s : Sch) (y m d : Int) (n : Nat) : (dL s y m d n).getD (n + 1) 0 = s.E := by
  unfold dL
  rw [List.getD_eq_getElem?_getD, at_last]
  rfl
theorem dl_mid (s : Sch) (y m d : Int) (n k : Nat) (h1 : 1 ≤ k) (h2 : k ≤ n) : (dL s y m d n).getD k 0 = vk y m d s.step s.last (if s.back then n + 1 - k else k) := by
  unfold dL
  rw [List.getD_eq_getElem?_getD, at_mid _ _ _ _ _ _ _ _ _ _ h1 h2]
  rfl
theorem dl_lt {s : Sch} {y m d : Int} {N n : Nat} (hY : DYes s y m d N) (hn : n ≤ N) (k : Nat) (hk : k ≤ n) : (dL s y m d n).getD k 0 < (dL s y m d n).getD (k + 1) 0 := by
  obtain ⟨g0, g1, g2, g3, g4, g5, g6, g7⟩ := sch_facts hY.ok
  have hz := (vk_zero hY).1
  rcases hb s.back with hbk | hbk
  · have hfr : s.from = s.E := by unfold Sch.from; rw [hbk]; rfl
    have hfar : ∀ j, 1 ≤ j → j ≤ N → s.S < vk y m d s.step s.last j := fun j a b => by
      have := (hY.ct.all j a b).2
      rw [hbk] at this
      simpa [far] using this
    have e : ∀ j, 1 ≤ j → j ≤ n → (dL s y m d n).getD j 0 = vk y m d s.step s.last (n + 1 - j) := fun j a b => by
      rw [dl_mid _ _ _ _ _ _ a b, hbk]
      rfl
    rcases Nat.eq_zero_or_pos k with h0 | h0
    · subst h0
      rw [dl_zero]
      rcases Nat.eq_zero_or_pos n with h | h
      · subst h
        rw [dl_last]
        omega
      · rw [e _ (by omega) (by omega)]
        exact hfar _ (by omega) (by omega)
    · rw [e k h0 hk]
      rcases Nat.lt_or_ge k n with h | h
      · rw [e (k + 1) (by omega) h]
        have := vk_down (k := n + 1 - (k + 1)) hY (by omega) hbk
        rwa [show n + 1 - (k + 1) + 1 = n + 1 - k by omega] at this
      · obtain rfl : k = n := by omega
        rw [dl_last]
        have := vk_down (k := 0) hY (by omega) hbk
        rw [hz, hfr] at this
        rwa [show k + 1 - k = 0 + 1 by omega]
  · have hfr : s.from = s.S := by unfold Sch.from; rw [hbk]; rfl
    have hfar : ∀ j, 1 ≤ j → j ≤ N → vk y m d s.step s.last j < s.E := fun j a b => by
      have := (hY.ct.all j a b).2
      rw [hbk] at this
      simpa [far] using this
    have e : ∀ j, 1 ≤ j → j ≤ n → (dL s y m d n).getD j 0 = vk y m d s.step s.last j := fun j a b => by
      rw [dl_mid _ _ _ _ _ _ a b, hbk]
      rfl
    rcases Nat.eq_zero_or_pos k with h0 | h0
    · subst h0
      rw [dl_zero]
      rcases Nat.eq_zero_or_pos n with h | h
      · subst h
        rw [dl_last]
        omega
      · rw [e _ (by omega) (by omega)]
        have := vk_up (k := 0) hY (by omega) hbk
        rwa [hz, hfr] at this
    · rw [e k h0 hk]
      rcases Nat.lt_or_ge k n with h | h
      · rw [e (k + 1) (by omega) h]
        exact vk_up hY (by omega) hbk
      · obtain rfl : k = n := by omega
        rw [dl_last]
        exact hfar _ h0 hn

end Go.Proofs.Ytainmmdlbajpnaa.Sc
