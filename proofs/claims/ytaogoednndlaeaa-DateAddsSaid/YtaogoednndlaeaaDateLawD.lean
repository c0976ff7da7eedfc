/-
  The walks of the laws DateAdds.
-/
import Derived.Test.YtaogoednndlaeaaDateLawC
namespace Go.Proofs.Ytaogoednndlaeaa.Dt
open Go.RowKit Go.Proofs.Ytaogoednndlaeaa

/-- the day that is wanted -/
def wantD (last : Bool) (d h1 h2 : Int) : Int := if (last && d == h1) = true then h2 else min d h2

theorem add_facts {y m d n k : Int} {last : Bool} (hD : IsDate y m d n) (hn : n ≤ 99999) (he : addE y m d k last = 0) :
    ∃ Y M D r : Int, addV y m d k last = r ∧ IsDate Y M D r ∧ r ≤ 99999 ∧ 12 * Y + M - 12 * y - m = k ∧ D = wantD last d (mlen y m) (mlen Y M) ∧
      (∃ B : Int, addV Y M D (-k) false = B ∧ addE Y M D (-k) false = 0 ∧ (D = d → B = n)) ∧ (k = 0 → r = n) := by
  have ho : addOk y m d k last = true := by
    unfold addE at he
    split at he
    · assumption
    · omega
  have hv : addV y m d k last = dnum (1900 + mon y m k / 12) (mon y m k % 12 + 1) (addD y m d k last) := by unfold addV; rw [if_pos ho]
  have hO : 0 ≤ mon y m k ∧ mon y m k / 12 ≤ 273 ∧ dnum (1900 + mon y m k / 12) (mon y m k % 12 + 1) (addD y m d k last) ≤ 99999 := by
    unfold addOk at ho
    exact of_decide_eq_true ho
  obtain ⟨a1, a2, a3, a4, a5, a6, a7⟩ := hD
  obtain ⟨b1, b2, b3⟩ := hO
  have hb := addD_bd y m d k last a5
  have hmk : mon y m k = 12 * (y - 1900) + m - 1 + k := rfl
  have hw : addD y m d k last = wantD last d (mlen y m) (mlen (1900 + mon y m k / 12) (mon y m k % 12 + 1)) := rfl
  generalize hY : 1900 + mon y m k / 12 = Y at *
  generalize hM : mon y m k % 12 + 1 = M at *
  generalize hDD : addD y m d k last = D at *
  have hmon2 : mon Y M (-k) = 12 * (y - 1900) + m - 1 := by unfold mon; omega
  have hY2 : 1900 + mon Y M (-k) / 12 = y := by rw [hmon2]; omega
  have hM2 : mon Y M (-k) % 12 + 1 = m := by rw [hmon2]; omega
  have hD2 : addD Y M D (-k) false = min D (mlen y m) := by
    unfold addD
    rw [hY2, hM2]
    rfl
  have hle : min D (mlen y m) ≤ d := by
    rw [hw]
    unfold wantD
    split
    · rename_i hq
      rw [Bool.and_eq_true, beq_iff_eq] at hq
      omega
    · omega
  have hok2 : addOk Y M D (-k) false = true := by
    unfold addOk
    rw [hY2, hM2, hD2, hmon2]
    refine decide_eq_true ⟨by omega, by omega, ?_⟩
    unfold dnum at *
    omega
  refine ⟨Y, M, D, dnum Y M D, hv, IsDate.mk (by omega) (by omega) (by omega) (by omega) hb.1 hb.2, b3, by omega, hw, ⟨dnum y m (min D (mlen y m)), ?_, ?_, ?_⟩, ?_⟩
  · unfold addV
    rw [if_pos hok2, hY2, hM2, hD2]
  · unfold addE
    rw [if_pos hok2]
  · intro h
    subst h
    rw [Int.min_eq_left a6]
    exact a7
  · intro h
    have e1 : Y = y := by omega
    have e2 : M = m := by omega
    have e3 : D = d := by
      rw [hw, e1, e2]
      unfold wantD
      split
      · rename_i hq
        rw [Bool.and_eq_true, beq_iff_eq] at hq
        omega
      · exact Int.min_eq_left a6
    rw [e1, e2, e3]
    exact a7

theorem addE_cases (y m d k : Int) (last : Bool) : addE y m d k last = 0 ∨ (addE y m d k last = 40 ∧ addV y m d k last = 0) := by
  unfold addE addV
  split
  · exact .inl rfl
  · exact .inr ⟨rfl, rfl⟩

set_option maxRecDepth 100000 in
set_option maxHeartbeats 4000000 in
theorem adds_walk (n : Int) (_wn : (Lit.int .i64 n).wf = true) (k : Int) (_wk : (Lit.int .i64 k).wf = true) (last : Bool) (w : World) :
    Calls Try.prog 9 #[.int .i64 n, .int .i64 k, .bool last] w fun e w' => e = .returned (.bool true) ∧ Below w.heap.size w w' := by
  clear _wn _wk
  by_cases h : n < 0 ∨ 99999 < n
  · have H := Lib.hid h
    have H2 := Lib.hid (show n < 0 ∨ 99999 < n ∨ k < -4000 ∨ 4000 < k by omega)
    clear h
    go_enter Try.func9, Try.ntmps9
    go_wp2_with fail
    refine (alive_any _).mono ?_
    rintro e w1 ⟨rfl, hb1⟩
    go_wp2_with fail
    refine (add_no n k last _ H2.out).mono ?_
    rintro e w2 ⟨rfl, hb2⟩
    have c2 := bt hb1 hb2 (Nat.le_refl _)
    go_wp2_with fail
    refine (parts_no n _ H.out).mono ?_
    rintro e w' ⟨rfl, rfl⟩
    go_wp2
    go_ret
    exact ⟨rfl, c2⟩
  · have hn0 : 0 ≤ n := by omega
    have hn1 : n ≤ 99999 := by omega
    obtain ⟨y, m, d, hD⟩ := date_exists n hn0 hn1
    by_cases hk : k < -4000 ∨ 4000 < k
    · have H2 := Lib.hid (show n < 0 ∨ 99999 < n ∨ k < -4000 ∨ 4000 < k by omega)
      have HD := Lib.hid hD
      by_cases hk1 : k < -4000
      all_goals
        have hk2 : k < -4000 ∨ 4000 < k := hk
        clear h hk hD
        go_enter Try.func9, Try.ntmps9
        go_wp2_with fail
        refine (alive_any _).mono ?_
        rintro e w1 ⟨rfl, hb1⟩
        go_wp2_with fail
        refine (add_no n k last _ H2.out).mono ?_
        rintro e w2 ⟨rfl, hb2⟩
        have c2 := bt hb1 hb2 (Nat.le_refl _)
        go_wp2_with fail
        refine (parts_yes y m d n _ HD.out hn1).mono ?_
        rintro e w3 ⟨rfl, hb3⟩
        have c3 := bt c2 hb3 (Nat.le_refl _)
        go_wp2
        go_ret
        first
          | exact ⟨rfl, c3⟩
          | exact ⟨ret_bool (by simp; omega), c3⟩
    · have hk0 : -4000 ≤ k := by omega
      have hk1 : k ≤ 4000 := by omega
      have HD := Lib.hid hD
      rcases addE_cases y m d k last with he | ⟨he, hv⟩
      · obtain ⟨Y, M, D, r, hv, hIs, hr, hmon, hW, ⟨B, hB1, hB2, hB3⟩, hk3⟩ := add_facts hD hn1 he
        have hd := hD
        obtain ⟨a1, a2, a3, a4, a5, a6, a7⟩ := hd
        have hd2 := hIs
        obtain ⟨z1, z2, z3, z4, z5, z6, z7⟩ := hd2
        have HI := Lib.hid hIs
        have HV := Lib.hid (And.intro hv he)
        have HB := Lib.hid (And.intro hB1 hB2)
        have HB3 := Lib.hid hB3
        have HK3 := Lib.hid hk3
        have HW := Lib.hid hW
        have tm : (12 * Y + M - 12 * y - m != k) = false := by rw [bne_eq_false_iff_eq]; exact hmon
        clear h hk hD he hv hIs hmon hW hB1 hB2 hB3 hk3 a7 z7
        go_enter Try.func9, Try.ntmps9
        go_wp2_with fail
        refine (alive_any _).mono ?_
        rintro e w1 ⟨rfl, hb1⟩
        go_wp2_with fail
        refine (add_at y m d n k r 0 last _ HD.out hn1 hk0 hk1 HV.out).mono ?_
        rintro e w2 ⟨rfl, hb2⟩
        have c2 := bt hb1 hb2 (Nat.le_refl _)
        go_wp2_with fail
        refine (parts_yes y m d n _ HD.out hn1).mono ?_
        rintro e w3 ⟨rfl, hb3⟩
        have c3 := bt c2 hb3 (Nat.le_refl _)
        go_wp2_with fail
        refine (parts_yes Y M D r _ HI.out hr).mono ?_
        rintro e w4 ⟨rfl, hb4⟩
        have c4 := bt c3 hb4 (Nat.le_refl _)
        go_wp2_with fail
        refine (length_yes y m _ a1 a2 a3 a4).mono ?_
        rintro e w5 ⟨rfl, hb5⟩
        have c5 := bt c4 hb5 (Nat.le_refl _)
        go_wp2_with fail
        refine (length_yes Y M _ z1 z2 z3 z4).mono ?_
        rintro e w6 ⟨rfl, hb6⟩
        have c6 := bt c5 hb6 (Nat.le_refl _)
        clear hb1 hb2 hb3 hb4 hb5 hb6 c2 c3 c4 c5
        go_wp2_with fail
        all_goals
          refine (add_at Y M D r (-k) B 0 false _ HI.out hr (by omega) (by omega) HB.out).mono ?_
          rintro e w7 ⟨rfl, hb7⟩
          have c7 := bt c6 hb7 (Nat.le_refl _)
          clear hb7 c6
          first
            | (have b1 : last = true := by assumption
               have b2 : (d == mlen y m) = true := by assumption
               have hw1 : (D == mlen Y M) = true := by rw [beq_iff_eq, HW.out, wantD, b1, b2]; rfl)
            | (have b1 : last = true := by assumption
               have b2 : (d == mlen y m) = false := by assumption
               have hw1 : (D == mlen Y M) = true := by rw [beq_iff_eq, HW.out, wantD, b1, b2]; exact Int.min_eq_right (by omega))
            | (have b1 : last = true := by assumption
               have b2 : (d == mlen y m) = false := by assumption
               have hw1 : (D == d) = true := by rw [beq_iff_eq, HW.out, wantD, b1, b2]; exact Int.min_eq_left (by omega))
            | (have b1 : ¬ last = true := by assumption
               have hw1 : (D == mlen Y M) = true := by rw [beq_iff_eq, HW.out, wantD, if_neg (by simp [b1])]; exact Int.min_eq_right (by omega))
            | (have b1 : ¬ last = true := by assumption
               have hw1 : (D == d) = true := by rw [beq_iff_eq, HW.out, wantD, if_neg (by simp [b1])]; exact Int.min_eq_left (by omega))
          have hx1 : ((D != d) = true) ∨ ((D != d) = false ∧ (B == n) = true) := by
            rcases Decidable.em (D = d) with g | g
            · exact .inr ⟨by rw [bne_eq_false_iff_eq]; exact g, by rw [beq_iff_eq]; exact HB3.out g⟩
            · exact .inl (by rw [bne_iff_ne]; exact g)
          have hx2 : ((k != 0) = true) ∨ ((k != 0) = false ∧ (r == n) = true) := by
            rcases Decidable.em (k = 0) with g | g
            · exact .inr ⟨by rw [bne_eq_false_iff_eq]; exact g, by rw [beq_iff_eq]; exact HK3.out g⟩
            · exact .inl (by rw [bne_iff_ne]; exact g)
          rcases hx1 with hx1 | ⟨hx1, hx3⟩ <;> rcases hx2 with hx2 | ⟨hx2, hx4⟩
          all_goals
            go_wp2
            go_ret
            exact ⟨rfl, c7⟩
      · have HV := Lib.hid (And.intro hv he)
        clear h hk hD he hv
        go_enter Try.func9, Try.ntmps9
        go_wp2_with fail
        refine (alive_any _).mono ?_
        rintro e w1 ⟨rfl, hb1⟩
        go_wp2_with fail
        refine (add_at y m d n k 0 40 last _ HD.out hn1 hk0 hk1 HV.out).mono ?_
        rintro e w2 ⟨rfl, hb2⟩
        have c2 := bt hb1 hb2 (Nat.le_refl _)
        go_wp2_with fail
        refine (parts_yes y m d n _ HD.out hn1).mono ?_
        rintro e w3 ⟨rfl, hb3⟩
        have c3 := bt c2 hb3 (Nat.le_refl _)
        go_wp2
        go_ret
        exact ⟨rfl, c3⟩

end Go.Proofs.Ytaogoednndlaeaa.Dt
