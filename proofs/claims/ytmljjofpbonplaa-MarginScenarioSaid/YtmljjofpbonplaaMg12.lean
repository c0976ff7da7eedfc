/-
  Margin's reference: the walk of novationref36.CheckGrid.
-/
import Derived.Test.YtmljjofpbonplaaMg11
namespace Go.Proofs.Ytmljjofpbonplaa.Mg
open Go.RowKit Go.Proofs.Ytmljjofpbonplaa Go.Proofs.Ytmljjofpbonplaa.Nm

set_option maxRecDepth 100000 in
set_option maxHeartbeats 16000000 in
theorem refCheckGrid_any (wa pa : Option Addr) (nw wc np pc : Nat) (W : Nat → Int) (P : Nat → PD) (w : World) (hw0 : nw ≤ maxLen) (hp0 : np ≤ maxLen) (hok : PDok P) (hW : IntsAt w wa nw W) (hA : ProdsAt w pa np P) :
    Calls Try.prog 25 #[.agg #[.slice wa nw wc, .slice pa np pc]] w fun e w' => e = .returned (.int .i64 (errV (gridB W nw P np))) ∧ Below w.heap.size w w' := by
  unfold maxLen at hw0 hp0
  have HA := Lib.hid hA
  have HW := Lib.hid hW
  have HP := Lib.hid (fun k => (hok k).1)
  have HM := Lib.hid (fun k => (hok k).2)
  have hblk := blk_new w (.cells #[.slice wa nw wc, .slice pa np pc] 25)
  have hbo : Below w.heap.size w (w.alloc (.cells #[.slice wa nw wc, .slice pa np pc] 25)) := (Below.refl _ _).alloc (Nat.le_refl _) _
  clear hA hW hok
  by_cases hsz : 1 ≤ nw ∧ nw ≤ 50 ∧ np ≤ 32
  · have HD := Lib.hid (show decide (1 ≤ nw ∧ nw ≤ 50 ∧ np ≤ 32) = true from decide_eq_true hsz)
    obtain ⟨s1, s2, s3⟩ := hsz
    have HX0 := Lib.hid hblk
    have HB0 := Lib.hid hbo
    clear hblk hbo
    go_enter Try.func25, Try.ntmps25
    go_wp2_with fail
    generalize w.alloc _ = wo at HX0 HB0 ⊢
    go_loopw [3] (fun c wr => ∃ k : Nat, k ≤ nw ∧ c = .int .i64 k ∧ Hid (∀ i, i < k → wBad (W i) = false) ∧ Below w.heap.size w wr ∧ Hid (wr.heap[w.heap.size]? = some (.cells #[.slice wa nw wc, .slice pa np pc] 25 (0, 0)))) (fun c _ => nw - (intOf c).toNat)
    case atStart => exact ⟨0, by omega, rfl, Lib.hid (fun i hi => by omega), HB0.out, HX0⟩
    case round =>
      clear HX0 HB0
      obtain ⟨k, hk, rfl, HG, hbw, HX⟩ := hrel
      have x0 : wr.cell? ⟨w.heap.size, 0, none⟩ = some (.slice wa nw wc) := cell_of HX.out 0 _ rfl
      have x1 : wr.cell? ⟨w.heap.size, 1, none⟩ = some (.slice pa np pc) := cell_of HX.out 1 _ rfl
      by_cases hlt : k < nw
      · obtain ⟨b, off, rfl, q0⟩ := (HW.out.below hbw) k hlt
        rcases hb (wBad (W k)) with h7 | h7
        · have HF := Lib.hid (show gridB W nw P np = false by rw [gridB, anyI_yes wBad W nw k hlt h7, Bool.not_true, Bool.and_false, Bool.false_and])
          unfold wBad at h7
          rw [decide_eq_true_eq] at h7
          rcases h7 with h7 | h7
          · go_wp2
            go_ret
            exact ⟨ret_int (by rw [HF.out]; rfl), hbw⟩
          · have h8 : ¬ (W k < 1) := by omega
            go_wp2
            go_ret
            exact ⟨ret_int (by rw [HF.out]; rfl), hbw⟩
        · have HG2 := Lib.hid (all_succ (f := fun i => wBad (W i)) HG.out h7)
          unfold wBad at h7
          rw [decide_eq_false_iff_not] at h7
          have h8 : ¬ (W k < 1) := by omega
          have h9 : ¬ (1000 < W k) := by omega
          go_wp2
          go_roundw
          case rel => exact ⟨k + 1, by omega, by go_num, HG2, hbw, HX⟩
          case measure => simp [intOf]; omega
      · have HN := Lib.hid (anyI_no wBad W nw (fun j hj => HG.out j (by omega)))
        clear HG
        go_wp2_with fail

        go_loopw [4, 5, 6] (fun c _ _ wr => ∃ k : Nat, k ≤ np ∧ c = .int .i64 k ∧ Hid (∀ i, i < k → pdBad P nw i = false) ∧ Below w.heap.size w wr ∧ Hid (wr.heap[w.heap.size]? = some (.cells #[.slice wa nw wc, .slice pa np pc] 25 (0, 0)))) (fun c _ _ _ => np - (intOf c).toNat)
        case atStart => exact ⟨0, by omega, rfl, Lib.hid (fun i hi => by omega), hbw, HX⟩
        case round =>
          clear HX hbw x0 x1 hlt
          obtain ⟨k, hk, rfl, HG, hbw, HX⟩ := hrel
          have x0 : wr.cell? ⟨w.heap.size, 0, none⟩ = some (.slice wa nw wc) := cell_of HX.out 0 _ rfl
          have x1 : wr.cell? ⟨w.heap.size, 1, none⟩ = some (.slice pa np pc) := cell_of HX.out 1 _ rfl
          by_cases hlt : k < np
          · have HC2 := Lib.hid (HA.out.below hbw)
            obtain ⟨b, off, rfl, q0, q1, q3, qi⟩ := HC2.out k hlt
            have q2 := HC2.out.prev k hlt
            have hbs : b < wr.heap.size := World.block_lt_of_cell? _ _ q0
            have hws : w.heap.size < wr.heap.size := World.block_lt_of_cell? _ _ x1
            have hb2 : ∀ o : Obj, Below w.heap.size w (wr.alloc o) := fun o => hbw.alloc hbw.size o
            have HI := Lib.hid (qi.below ((Below.refl _ _).alloc (Nat.le_refl _) (.cells #[.string (P k).nm, .slice (P k).a (P k).len (P k).cap, .int .i64 (P k).fee] 54)))
            have HX := Lib.hid (blk_past wr (.cells #[.string (P k).nm, .slice (P k).a (P k).len (P k).cap, .int .i64 (P k).fee] 54) HX.out)
            have hL := HM.out k
            unfold maxLen at hL
            clear qi
            rcases hb (nm (P k).nm) with h1 | h1
            ·
              rcases hb (decide ((0 : Int) < (k : Int))) with h2 | h2
              ·
                rcases hb (Op.bytesLess (P (k - 1)).nm.toList (P k).nm.toList) with h3 | h3
                ·
                  rcases hb (((P k).len : Int) != (nw : Int)) with h4 | h4
                  ·
                    have HBAD := Lib.hid (pdB_bad P np nw k hlt (by unfold pdBad; rw [h1, h2, h3, h4]; simp))
                    have HF := Lib.hid (show gridB W nw P np = false by rw [gridB, HBAD.out, Bool.and_false])
                    have HZ := Lib.hid (HP.out k)
                    have hk1 : (0 : Int) < (k : Int) := of_decide_eq_true h2
                    have hk0 : decide (0 < k) = true := decide_eq_true (by omega)
                    have hk2 : (1 : Int) ≤ (k : Int) := hk1
                    have hk3 : (0 : Int) ≤ (k : Int) - 1 := by omega
                    have hk4 : (k : Int) - 1 < (np : Int) := by omega
                    have hk5 : IntKind.i64.wrap ((k : Int) - 1) = (k : Int) - 1 := IntWalk.i64_in _ (by omega)
                    have hk6 : ((k : Int) - 1).toNat = k - 1 := by omega
                    go_wp2_with fail
                    go_quiet ((go_at_call 48; exact Calls.quiet_of_same (refName_q _ _ _ HZ.out h1)))
                    go_wp2
                    go_ret
                    exact ⟨ret_int (by rw [HF.out]; rfl), below_drewN (hb2 _) _⟩
                  ·
                    rcases hb (decide ((P k).fee < 0)) with h5 | h5
                    ·
                      have HBAD := Lib.hid (pdB_bad P np nw k hlt (by unfold pdBad; rw [h1, h2, h3, h4, h5]; simp))
                      have HF := Lib.hid (show gridB W nw P np = false by rw [gridB, HBAD.out, Bool.and_false])
                      have HZ := Lib.hid (HP.out k)
                      have hk1 : (0 : Int) < (k : Int) := of_decide_eq_true h2
                      have hk0 : decide (0 < k) = true := decide_eq_true (by omega)
                      have hk2 : (1 : Int) ≤ (k : Int) := hk1
                      have hk3 : (0 : Int) ≤ (k : Int) - 1 := by omega
                      have hk4 : (k : Int) - 1 < (np : Int) := by omega
                      have hk5 : IntKind.i64.wrap ((k : Int) - 1) = (k : Int) - 1 := IntWalk.i64_in _ (by omega)
                      have hk6 : ((k : Int) - 1).toNat = k - 1 := by omega
                      go_wp2_with fail
                      go_quiet ((go_at_call 48; exact Calls.quiet_of_same (refName_q _ _ _ HZ.out h1)))
                      go_wp2
                      go_ret
                      exact ⟨ret_int (by rw [HF.out]; rfl), below_drewN (hb2 _) _⟩
                    ·
                      rcases hb (decide (8388608 < (P k).fee)) with h6 | h6
                      ·
                        have HBAD := Lib.hid (pdB_bad P np nw k hlt (by unfold pdBad; rw [h1, h2, h3, h4, h5, h6]; simp))
                        have HF := Lib.hid (show gridB W nw P np = false by rw [gridB, HBAD.out, Bool.and_false])
                        have HZ := Lib.hid (HP.out k)
                        have hk1 : (0 : Int) < (k : Int) := of_decide_eq_true h2
                        have hk0 : decide (0 < k) = true := decide_eq_true (by omega)
                        have hk2 : (1 : Int) ≤ (k : Int) := hk1
                        have hk3 : (0 : Int) ≤ (k : Int) - 1 := by omega
                        have hk4 : (k : Int) - 1 < (np : Int) := by omega
                        have hk5 : IntKind.i64.wrap ((k : Int) - 1) = (k : Int) - 1 := IntWalk.i64_in _ (by omega)
                        have hk6 : ((k : Int) - 1).toNat = k - 1 := by omega
                        go_wp2_with fail
                        go_quiet ((go_at_call 48; exact Calls.quiet_of_same (refName_q _ _ _ HZ.out h1)))
                        go_wp2
                        go_ret
                        exact ⟨ret_int (by rw [HF.out]; rfl), below_drewN (hb2 _) _⟩
                      ·
                        have HD5 := Lib.hid (show anyI mBad (P k).mv (P k).len = false → pdBad P nw k = false from fun h7 => by unfold pdBad; rw [h1, h2, h3, h4, h5, h6, h7]; rfl)
                        have HLEN := Lib.hid (show (P k).len = nw by have := h4; simp at this; omega)
                        have HZ := Lib.hid (HP.out k)
                        have hk1 : (0 : Int) < (k : Int) := of_decide_eq_true h2
                        have hk0 : decide (0 < k) = true := decide_eq_true (by omega)
                        have hk2 : (1 : Int) ≤ (k : Int) := hk1
                        have hk3 : (0 : Int) ≤ (k : Int) - 1 := by omega
                        have hk4 : (k : Int) - 1 < (np : Int) := by omega
                        have hk5 : IntKind.i64.wrap ((k : Int) - 1) = (k : Int) - 1 := IntWalk.i64_in _ (by omega)
                        have hk6 : ((k : Int) - 1).toNat = k - 1 := by omega
                        go_wp2_with fail
                        go_quiet ((go_at_call 48; exact Calls.quiet_of_same (refName_q _ _ _ HZ.out h1)))
                        clear h6 h5 h4 h3 h2 h1
                        have HX5 := Lib.hid (show ((wr.alloc (.cells #[.string (P k).nm, .slice (P k).a (P k).len (P k).cap, .int .i64 (P k).fee] 54)).drewN nq).heap[w.heap.size]? = some (.cells #[.slice wa nw wc, .slice (some ⟨b, off, none⟩) np pc] 25 (0, 0)) from HX.out)
                        have HP5 := Lib.hid (show ((wr.alloc (.cells #[.string (P k).nm, .slice (P k).a (P k).len (P k).cap, .int .i64 (P k).fee] 54)).drewN nq).heap[wr.heap.size]? = some (.cells #[.string (P k).nm, .slice (P k).a (P k).len (P k).cap, .int .i64 (P k).fee] 54 (0, 0)) from blk_new wr _)
                        have HB5 := Lib.hid (below_drewN (hb2 (.cells #[.string (P k).nm, .slice (P k).a (P k).len (P k).cap, .int .i64 (P k).fee] 54)) nq)
                        have HI5 := Lib.hid (show IntsAt ((wr.alloc (.cells #[.string (P k).nm, .slice (P k).a (P k).len (P k).cap, .int .i64 (P k).fee] 54)).drewN nq) (P k).a (P k).len (P k).mv from HI.out.below (below_drewN (Below.refl _ _) nq))
                        clear HX HI hb2
                        generalize (wr.alloc _).drewN _ = wq at HX5 HP5 HB5 HI5 ⊢
                        generalize wr.heap.size = G at *
                        go_wp2_with fail
                        go_loopw [6] (fun c wr => ∃ m : Nat, m ≤ (P k).len ∧ c = .int .i64 m ∧ Hid (∀ j, j < m → mBad ((P k).mv j) = false) ∧ wr = wq) (fun c _ => (P k).len - (intOf c).toNat)
                        case atStart => exact ⟨0, by omega, rfl, Lib.hid (fun i hi => by omega), rfl⟩
                        case round =>
                          obtain ⟨m, hm, rfl, HG3, rfl⟩ := hrel
                          have p1 : wr.cell? ⟨G, 1, none⟩ = some (.slice (P k).a (P k).len (P k).cap) := cell_of HP5.out 1 _ rfl
                          by_cases hlt3 : m < (P k).len
                          · obtain ⟨b3, off3, ha3, q5⟩ := HI5.out m hlt3
                            rw [ha3] at p1
                            clear ha3
                            rcases hb (mBad ((P k).mv m)) with h7 | h7
                            · have HBAD := Lib.hid (pdB_bad P np nw k hlt (by unfold pdBad; rw [anyI_yes mBad (P k).mv (P k).len m hlt3 h7]; simp))
                              have HF := Lib.hid (show gridB W nw P np = false by rw [gridB, HBAD.out, Bool.and_false])
                              unfold mBad at h7
                              have h8 : ¬ (-8388608 ≤ (P k).mv m ∧ (P k).mv m ≤ 8388608) := fun hx => by rw [decide_eq_true hx] at h7; cases h7
                              clear h7
                              by_cases h9 : (P k).mv m < -8388608
                              · clear h8
                                go_wp2
                                go_ret
                                exact ⟨ret_int (by rw [HF.out]; rfl), HB5.out⟩
                              · have h10 : 8388608 < (P k).mv m := by omega
                                clear h8
                                go_wp2
                                go_ret
                                exact ⟨ret_int (by rw [HF.out]; rfl), HB5.out⟩
                            · have HG4 := Lib.hid (all_succ (f := fun j => mBad ((P k).mv j)) HG3.out h7)
                              unfold mBad at h7
                              have h8 : -8388608 ≤ (P k).mv m ∧ (P k).mv m ≤ 8388608 := by simpa using h7
                              have h9 : ¬ ((P k).mv m < -8388608) := by omega
                              have h10 : ¬ (8388608 < (P k).mv m) := by omega
                              clear h7 h8
                              go_wp2
                              go_roundw
                              case rel => exact ⟨m + 1, by omega, by go_num, HG4, by simp⟩
                              case measure => simp [intOf]; omega
                          · have HG2 := Lib.hid (all_succ HG.out (HD5.out (anyI_no mBad (P k).mv (P k).len (fun j hj => HG3.out j (by omega)))))
                            clear HD5 HG3
                            go_wp2
                            go_roundw
                            case rel => exact ⟨k + 1, by omega, by go_num, HG2, HB5.out, HX5⟩
                            case measure => simp [intOf]; omega
                ·
                  have HBAD := Lib.hid (pdB_bad P np nw k hlt (by unfold pdBad; rw [h1, h2, h3]; simp))
                  have HF := Lib.hid (show gridB W nw P np = false by rw [gridB, HBAD.out, Bool.and_false])
                  have HZ := Lib.hid (HP.out k)
                  have hk1 : (0 : Int) < (k : Int) := of_decide_eq_true h2
                  have hk0 : decide (0 < k) = true := decide_eq_true (by omega)
                  have hk2 : (1 : Int) ≤ (k : Int) := hk1
                  have hk3 : (0 : Int) ≤ (k : Int) - 1 := by omega
                  have hk4 : (k : Int) - 1 < (np : Int) := by omega
                  have hk5 : IntKind.i64.wrap ((k : Int) - 1) = (k : Int) - 1 := IntWalk.i64_in _ (by omega)
                  have hk6 : ((k : Int) - 1).toNat = k - 1 := by omega
                  go_wp2_with fail
                  go_quiet ((go_at_call 48; exact Calls.quiet_of_same (refName_q _ _ _ HZ.out h1)))
                  go_wp2
                  go_ret
                  exact ⟨ret_int (by rw [HF.out]; rfl), below_drewN (hb2 _) _⟩
              ·
                rcases hb (((P k).len : Int) != (nw : Int)) with h4 | h4
                ·
                  have HBAD := Lib.hid (pdB_bad P np nw k hlt (by unfold pdBad; rw [h1, h2, h4]; simp))
                  have HF := Lib.hid (show gridB W nw P np = false by rw [gridB, HBAD.out, Bool.and_false])
                  have HZ := Lib.hid (HP.out k)
                  have hk1 : ¬ (0 : Int) < (k : Int) := of_decide_eq_false h2
                  have hk0 : decide (0 < k) = false := decide_eq_false (by omega)
                  go_wp2_with fail
                  go_quiet ((go_at_call 48; exact Calls.quiet_of_same (refName_q _ _ _ HZ.out h1)))
                  go_wp2
                  go_ret
                  exact ⟨ret_int (by rw [HF.out]; rfl), below_drewN (hb2 _) _⟩
                ·
                  rcases hb (decide ((P k).fee < 0)) with h5 | h5
                  ·
                    have HBAD := Lib.hid (pdB_bad P np nw k hlt (by unfold pdBad; rw [h1, h2, h4, h5]; simp))
                    have HF := Lib.hid (show gridB W nw P np = false by rw [gridB, HBAD.out, Bool.and_false])
                    have HZ := Lib.hid (HP.out k)
                    have hk1 : ¬ (0 : Int) < (k : Int) := of_decide_eq_false h2
                    have hk0 : decide (0 < k) = false := decide_eq_false (by omega)
                    go_wp2_with fail
                    go_quiet ((go_at_call 48; exact Calls.quiet_of_same (refName_q _ _ _ HZ.out h1)))
                    go_wp2
                    go_ret
                    exact ⟨ret_int (by rw [HF.out]; rfl), below_drewN (hb2 _) _⟩
                  ·
                    rcases hb (decide (8388608 < (P k).fee)) with h6 | h6
                    ·
                      have HBAD := Lib.hid (pdB_bad P np nw k hlt (by unfold pdBad; rw [h1, h2, h4, h5, h6]; simp))
                      have HF := Lib.hid (show gridB W nw P np = false by rw [gridB, HBAD.out, Bool.and_false])
                      have HZ := Lib.hid (HP.out k)
                      have hk1 : ¬ (0 : Int) < (k : Int) := of_decide_eq_false h2
                      have hk0 : decide (0 < k) = false := decide_eq_false (by omega)
                      go_wp2_with fail
                      go_quiet ((go_at_call 48; exact Calls.quiet_of_same (refName_q _ _ _ HZ.out h1)))
                      go_wp2
                      go_ret
                      exact ⟨ret_int (by rw [HF.out]; rfl), below_drewN (hb2 _) _⟩
                    ·
                      have HD5 := Lib.hid (show anyI mBad (P k).mv (P k).len = false → pdBad P nw k = false from fun h7 => by unfold pdBad; rw [h1, h2, h4, h5, h6, h7]; rfl)
                      have HLEN := Lib.hid (show (P k).len = nw by have := h4; simp at this; omega)
                      have HZ := Lib.hid (HP.out k)
                      have hk1 : ¬ (0 : Int) < (k : Int) := of_decide_eq_false h2
                      have hk0 : decide (0 < k) = false := decide_eq_false (by omega)
                      go_wp2_with fail
                      go_quiet ((go_at_call 48; exact Calls.quiet_of_same (refName_q _ _ _ HZ.out h1)))
                      clear h6 h5 h4 h2 h1
                      have HX5 := Lib.hid (show ((wr.alloc (.cells #[.string (P k).nm, .slice (P k).a (P k).len (P k).cap, .int .i64 (P k).fee] 54)).drewN nq).heap[w.heap.size]? = some (.cells #[.slice wa nw wc, .slice (some ⟨b, off, none⟩) np pc] 25 (0, 0)) from HX.out)
                      have HP5 := Lib.hid (show ((wr.alloc (.cells #[.string (P k).nm, .slice (P k).a (P k).len (P k).cap, .int .i64 (P k).fee] 54)).drewN nq).heap[wr.heap.size]? = some (.cells #[.string (P k).nm, .slice (P k).a (P k).len (P k).cap, .int .i64 (P k).fee] 54 (0, 0)) from blk_new wr _)
                      have HB5 := Lib.hid (below_drewN (hb2 (.cells #[.string (P k).nm, .slice (P k).a (P k).len (P k).cap, .int .i64 (P k).fee] 54)) nq)
                      have HI5 := Lib.hid (show IntsAt ((wr.alloc (.cells #[.string (P k).nm, .slice (P k).a (P k).len (P k).cap, .int .i64 (P k).fee] 54)).drewN nq) (P k).a (P k).len (P k).mv from HI.out.below (below_drewN (Below.refl _ _) nq))
                      clear HX HI hb2
                      generalize (wr.alloc _).drewN _ = wq at HX5 HP5 HB5 HI5 ⊢
                      generalize wr.heap.size = G at *
                      go_wp2_with fail
                      go_loopw [6] (fun c wr => ∃ m : Nat, m ≤ (P k).len ∧ c = .int .i64 m ∧ Hid (∀ j, j < m → mBad ((P k).mv j) = false) ∧ wr = wq) (fun c _ => (P k).len - (intOf c).toNat)
                      case atStart => exact ⟨0, by omega, rfl, Lib.hid (fun i hi => by omega), rfl⟩
                      case round =>
                        obtain ⟨m, hm, rfl, HG3, rfl⟩ := hrel
                        have p1 : wr.cell? ⟨G, 1, none⟩ = some (.slice (P k).a (P k).len (P k).cap) := cell_of HP5.out 1 _ rfl
                        by_cases hlt3 : m < (P k).len
                        · obtain ⟨b3, off3, ha3, q5⟩ := HI5.out m hlt3
                          rw [ha3] at p1
                          clear ha3
                          rcases hb (mBad ((P k).mv m)) with h7 | h7
                          · have HBAD := Lib.hid (pdB_bad P np nw k hlt (by unfold pdBad; rw [anyI_yes mBad (P k).mv (P k).len m hlt3 h7]; simp))
                            have HF := Lib.hid (show gridB W nw P np = false by rw [gridB, HBAD.out, Bool.and_false])
                            unfold mBad at h7
                            have h8 : ¬ (-8388608 ≤ (P k).mv m ∧ (P k).mv m ≤ 8388608) := fun hx => by rw [decide_eq_true hx] at h7; cases h7
                            clear h7
                            by_cases h9 : (P k).mv m < -8388608
                            · clear h8
                              go_wp2
                              go_ret
                              exact ⟨ret_int (by rw [HF.out]; rfl), HB5.out⟩
                            · have h10 : 8388608 < (P k).mv m := by omega
                              clear h8
                              go_wp2
                              go_ret
                              exact ⟨ret_int (by rw [HF.out]; rfl), HB5.out⟩
                          · have HG4 := Lib.hid (all_succ (f := fun j => mBad ((P k).mv j)) HG3.out h7)
                            unfold mBad at h7
                            have h8 : -8388608 ≤ (P k).mv m ∧ (P k).mv m ≤ 8388608 := by simpa using h7
                            have h9 : ¬ ((P k).mv m < -8388608) := by omega
                            have h10 : ¬ (8388608 < (P k).mv m) := by omega
                            clear h7 h8
                            go_wp2
                            go_roundw
                            case rel => exact ⟨m + 1, by omega, by go_num, HG4, by simp⟩
                            case measure => simp [intOf]; omega
                        · have HG2 := Lib.hid (all_succ HG.out (HD5.out (anyI_no mBad (P k).mv (P k).len (fun j hj => HG3.out j (by omega)))))
                          clear HD5 HG3
                          go_wp2
                          go_roundw
                          case rel => exact ⟨k + 1, by omega, by go_num, HG2, HB5.out, HX5⟩
                          case measure => simp [intOf]; omega
            ·
              have HBAD := Lib.hid (pdB_bad P np nw k hlt (by unfold pdBad; rw [h1]; simp))
              have HF := Lib.hid (show gridB W nw P np = false by rw [gridB, HBAD.out, Bool.and_false])
              have HZ := Lib.hid (HP.out k)
              go_wp2_with fail
              go_quiet ((go_at_call 48; exact Calls.quiet_of_same (refName_q _ _ _ HZ.out h1)))
              go_wp2
              go_ret
              exact ⟨ret_int (by rw [HF.out]; rfl), below_drewN (hb2 _) _⟩

          · have HGOOD := Lib.hid (pdB_good P np nw (fun i hi => HG.out i (by omega)))
            have HE := Lib.hid (show gridB W nw P np = true by rw [gridB, HD.out, HN.out, HGOOD.out]; rfl)
            go_wp2
            go_ret
            exact ⟨ret_int (by rw [HE.out]; rfl), hbw⟩
  · have HD := Lib.hid (show gridB W nw P np = false by rw [gridB, decide_eq_false hsz, Bool.false_and, Bool.false_and])
    have HX0 := Lib.hid hblk
    by_cases hs1 : nw < 1
    · clear hsz hblk hbo
      go_enter Try.func25, Try.ntmps25
      go_wp2
      go_ret
      exact ⟨ret_int (by rw [HD.out]; rfl), (Below.refl _ _).alloc (Nat.le_refl _) _⟩
    · by_cases hs2 : 50 < nw
      · clear hsz hblk hbo
        go_enter Try.func25, Try.ntmps25
        go_wp2
        go_ret
        exact ⟨ret_int (by rw [HD.out]; rfl), (Below.refl _ _).alloc (Nat.le_refl _) _⟩
      · have hs3 : 32 < np := by omega
        clear hsz hblk hbo
        go_enter Try.func25, Try.ntmps25
        go_wp2
        go_ret
        exact ⟨ret_int (by rw [HD.out]; rfl), (Below.refl _ _).alloc (Nat.le_refl _) _⟩
end Go.Proofs.Ytmljjofpbonplaa.Mg
