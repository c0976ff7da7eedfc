/-
  The reference: the walks of Step, Regular, Stub.
-/
import Derived.Test.YtainmmdlbajpnaaScQ
namespace Go.Proofs.Ytainmmdlbajpnaa.Sc
open Go.RowKit Go.Proofs.Ytainmmdlbajpnaa Go.Proofs.Ytainmmdlbajpnaa.Ls Go.Proofs.Ytainmmdlbajpnaa.Kb
open Go.Proofs.Ytainmmdlbajpnaa.Dt hiding ret_bool ret_int

/-- the reference's AddMonths, at every number of months -/
theorem ram (y m d n k : Int) (last : Bool) (w : World) (hD : IsDate y m d n) (hn : n ≤ 99999) :
    Calls Try.prog 53 #[.int .i64 n, .int .i64 k, .bool last] w fun e w' => ∃ g : Int, e = .returned (.tuple #[.int .i64 (addV y m d k last), .int .i64 g]) ∧ (addOk y m d k last = true ∧ g = 0 ∨ addOk y m d k last = false ∧ (g = 2 ∨ g = 40)) ∧ w = w' := by
  by_cases h : -4000 ≤ k ∧ k ≤ 4000
  · refine (radd_yes y m d n k last w hD hn h.1 h.2).mono ?_
    rintro e w' ⟨rfl, hb⟩
    refine ⟨_, rfl, ?_, hb⟩
    rcases addE_cases y m d k last with ⟨h1, h2⟩ | ⟨h1, h2, _⟩
    · exact .inl ⟨h1, h2⟩
    · exact .inr ⟨h1, .inr h2⟩
  · have ho : addOk y m d k last = false := by
      obtain ⟨a1, a2, a3, a4, a5, a6, a7⟩ := hD
      exact add_far a1 a2 a3 a4 (by omega)
    have hv : addV y m d k last = 0 := by unfold addV; rw [ho]; rfl
    rw [hv]
    refine (radd_no n k last w (by omega)).mono ?_
    rintro e w' ⟨rfl, hb⟩
    exact ⟨_, rfl, .inr ⟨ho, .inl rfl⟩, hb⟩

/-- is the k-th day strictly inside? -/
def inB (s : Sch) (y m d : Int) (k : Nat) : Bool := ok y m d s.step s.last k && (decide (s.S < vk y m d s.step s.last k) && decide (vk y m d s.step s.last k < s.E))

set_option maxRecDepth 100000 in
set_option maxHeartbeats 2000000 in
theorem step_any (s : Sch) (y m d : Int) (k : Nat) (w : World) (hD : IsDate y m d s.from) (hf : s.from ≤ 99999) (hMo : 1 ≤ s.Mo ∧ s.Mo ≤ 1200) (hk : k ≤ 4000) :
    Calls Try.prog 36 #[.agg s.cells, .int .i64 k] w fun e w' => e = .returned (.tuple #[.int .i64 (vk y m d s.step s.last k), .bool (inB s y m d k)]) ∧ Below w.heap.size w w' := by
  have HAM := Lib.hid (fun w => ram y m d s.from ((k : Int) * s.step) s.last w hD hf)
  have HV : Hid (addV y m d ((k : Int) * s.step) s.last = vk y m d s.step s.last k ∧ addOk y m d ((k : Int) * s.step) s.last = ok y m d s.step s.last k) := ⟨rfl, rfl⟩
  rw [HV.out.1, HV.out.2] at HAM
  have HI := Lib.hid (show inB s y m d k = (ok y m d s.step s.last k && (decide (s.S < vk y m d s.step s.last k) && decide (vk y m d s.step s.last k < s.E))) from rfl)
  generalize inB s y m d k = ib at HI ⊢
  generalize vk y m d s.step s.last k = v at HAM HI ⊢
  generalize ok y m d s.step s.last k = o at HAM HI ⊢
  have hbd := mul_bd k s.Mo (by omega) (by omega) (by omega)
  have hbd2 := mul_bd k (-s.Mo) (by omega) (by omega) (by omega)
  clear HV
  obtain ⟨S, E, Mo, back, last, stub, roll, wk, a, c, hs⟩ := s
  obtain ⟨m1, m2⟩ := hMo
  simp only [Sch.cells] at *
  have hbo : Below w.heap.size w (w.alloc (.cells #[.int .i64 S, .int .i64 E, .int .i64 Mo, .bool back, .bool last, .int .u8 stub, .int .u8 roll, .int .u8 wk, .slice a hs.length c] 26)) := (Below.refl _ _).alloc (Nat.le_refl _) _
  have hx := blk_new w (.cells #[.int .i64 S, .int .i64 E, .int .i64 Mo, .bool back, .bool last, .int .u8 stub, .int .u8 roll, .int .u8 wk, .slice a hs.length c] 26)
  go_enter Try.func36, Try.ntmps36
  cases back
  · go_wp2_with fail
    generalize w.alloc _ = wo at hx hbo ⊢
    refine Calls.mono (HAM.out _) ?_
    rintro e w1 ⟨g, rfl, ho, rfl⟩
    have x0 := cell_of hx 0 _ rfl
    have x1 := cell_of hx 1 _ rfl
    rcases ho with ⟨rfl, rfl⟩ | ⟨rfl, hg⟩
    · by_cases hv : S < v
      · have hv2 : decide (S < v) = true := decide_eq_true hv
        go_wp2_with fail
        go_quiet (fail)
        go_wp2
        go_ret2
        refine ⟨?_, below_drewN hbo _⟩
        rw [HI.out]
        simp [hv]
      · have hv2 : decide (S < v) = false := decide_eq_false hv
        have hv3 : v ≤ S := by omega
        go_wp2_with fail
        go_quiet (fail)
        go_wp2
        go_ret2
        refine ⟨?_, below_drewN hbo _⟩
        rw [HI.out]
        simp
        omega
    · rcases hg with rfl | rfl
      all_goals
        go_wp2_with fail
        go_quiet (fail)
        go_wp2
        go_ret2
        refine ⟨?_, below_drewN hbo _⟩
        rw [HI.out]
        simp
  · have harg : -(k : Int) * Mo = (k : Int) * (Sch.mk S E Mo true last stub roll wk a c hs).step := by
      show _ = (k : Int) * (-Mo)
      rw [Int.mul_neg, Int.neg_mul]
    have HAR := Lib.hid harg
    have hbd3 : -5000000 ≤ -(k : Int) * Mo ∧ -(k : Int) * Mo ≤ 5000000 := by rw [Int.neg_mul]; rw [Int.mul_neg] at hbd2; exact hbd2
    clear harg
    go_wp2_with fail
    generalize w.alloc _ = wo at hx hbo ⊢
    rw [HAR.out]
    refine Calls.mono (HAM.out _) ?_
    rintro e w1 ⟨g, rfl, ho, rfl⟩
    have x0 := cell_of hx 0 _ rfl
    have x1 := cell_of hx 1 _ rfl
    rcases ho with ⟨rfl, rfl⟩ | ⟨rfl, hg⟩
    · by_cases hv : S < v
      · have hv2 : decide (S < v) = true := decide_eq_true hv
        go_wp2_with fail
        go_quiet (fail)
        go_wp2
        go_ret2
        refine ⟨?_, below_drewN hbo _⟩
        rw [HI.out]
        simp [hv]
      · have hv2 : decide (S < v) = false := decide_eq_false hv
        have hv3 : v ≤ S := by omega
        go_wp2_with fail
        go_quiet (fail)
        go_wp2
        go_ret2
        refine ⟨?_, below_drewN hbo _⟩
        rw [HI.out]
        simp
        omega
    · rcases hg with rfl | rfl
      all_goals
        go_wp2_with fail
        go_quiet (fail)
        go_wp2
        go_ret2
        refine ⟨?_, below_drewN hbo _⟩
        rw [HI.out]
        simp

/-- how many regular days the reference counts -/
theorem inB_iff {s : Sch} {y m d : Int} {N k : Nat} (hY : DYes s y m d N) (h1 : 1 ≤ k) : inB s y m d k = (ok y m d s.step s.last k && far s.back s.S s.E (vk y m d s.step s.last k)) := by
  obtain ⟨g0, g1, g2, g3, g4, g5, g6, g7⟩ := sch_facts hY.ok
  have hz := (vk_zero hY)
  unfold inB
  rcases hb (ok y m d s.step s.last k) with ho | ho
  · rw [ho, Bool.true_and, Bool.true_and]
    rcases hb s.back with hbk | hbk
    · have hfr : s.from = s.E := by unfold Sch.from; rw [hbk]; rfl
      have hst : s.step = -s.Mo := by unfold Sch.step; rw [hbk]; rfl
      have : vk y m d s.step s.last k < s.E := by
        have := add_mono (k := (k : Int) * s.step) (k' := 0) hY.dt ho (by have := hz.2; unfold ok at this; simpa using this) (by rw [hst, Int.mul_neg]; have := Int.mul_lt_mul_of_pos_right (show (0 : Int) < (k : Int) by omega) (show 0 < s.Mo by omega); omega)
        have h0 := hz.1
        unfold vk at h0 ⊢
        simp only [Int.ofNat_zero, Int.zero_mul] at h0
        omega
      unfold far
      rw [hbk, decide_eq_true this]
      simp
    · have hfr : s.from = s.S := by unfold Sch.from; rw [hbk]; rfl
      have hst : s.step = s.Mo := by unfold Sch.step; rw [hbk]; rfl
      have : s.S < vk y m d s.step s.last k := by
        have := add_mono (k := 0) (k' := (k : Int) * s.step) hY.dt (by have := hz.2; unfold ok at this; simpa using this) ho (by rw [hst]; have := Int.mul_lt_mul_of_pos_right (show (0 : Int) < (k : Int) by omega) (show 0 < s.Mo by omega); omega)
        have h0 := hz.1
        unfold vk at h0 ⊢
        simp only [Int.ofNat_zero, Int.zero_mul] at h0
        omega
      unfold far
      rw [hbk, decide_eq_true this]
      simp
  · rw [ho]
    rfl
theorem inB_yes {s : Sch} {y m d : Int} {N k : Nat} (hY : DYes s y m d N) (h1 : 1 ≤ k) (h2 : k ≤ N) : inB s y m d k = true := by
  rw [inB_iff hY h1, Bool.and_eq_true]
  exact hY.ct.all k h1 h2
theorem inB_no {s : Sch} {y m d : Int} {N : Nat} (hY : DYes s y m d N) : inB s y m d (N + 1) = false := by
  rw [inB_iff hY (by omega)]
  have := hY.ct.stop
  rw [← Bool.and_eq_true] at this
  simpa using this

end Go.Proofs.Ytainmmdlbajpnaa.Sc
