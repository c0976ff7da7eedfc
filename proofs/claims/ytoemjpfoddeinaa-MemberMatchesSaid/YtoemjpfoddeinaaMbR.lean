/-
  Member: the walks of the reference's Great and Find.
-/
import Derived.Test.YtoemjpfoddeinaaMbP
namespace Go.Proofs.Ytoemjpfoddeinaa.Mb
open Go.RowKit Go.Proofs.Ytoemjpfoddeinaa Go.Proofs.Ytoemjpfoddeinaa.Ls Go.Proofs.Ytoemjpfoddeinaa.Kb
open Go.Proofs.Ytoemjpfoddeinaa.Nm hiding ret_bool ret_int

/-- larger than the statements consider -/
def grB (xs : List P) : Bool := (xs.take 81).any (fun x => decide (30 < x.1.ac.length)) || decide (80 < xs.length)
theorem gr_yes {xs : List P} {i : Nat} (hi : i < xs.length) (h80 : i ≤ 80) (h : 30 < (gp xs i).1.ac.length) : grB xs = true := by
  unfold grB
  rw [Bool.or_eq_true]
  refine .inl (List.any_eq_true.2 ⟨gp xs i, ?_, decide_eq_true h⟩)
  have : gp xs i = xs[i] := by unfold gp; rw [List.getD_eq_getElem?_getD, List.getElem?_eq_getElem hi]; rfl
  rw [this, List.mem_iff_getElem]
  exact ⟨i, by rw [List.length_take]; omega, by rw [List.getElem_take]⟩
theorem gr_no {xs : List P} (h : ∀ i, i < xs.length → i ≤ 80 → ¬ 30 < (gp xs i).1.ac.length) : grB xs = decide (80 < xs.length) := by
  unfold grB
  have : (xs.take 81).any (fun x => decide (30 < x.1.ac.length)) = false := by
    rw [List.any_eq_false]
    intro x hx
    obtain ⟨i, hi, rfl⟩ := List.mem_iff_getElem.1 hx
    rw [List.length_take] at hi
    have := h i (by omega) (by omega)
    unfold gp at this
    rw [List.getD_eq_getElem?_getD, List.getElem?_eq_getElem (by omega)] at this
    rw [List.getElem_take]
    simpa using this
  rw [this, Bool.false_or]
theorem gr_small {xs : List P} (h : grB xs = false) : xs.length ≤ 80 ∧ ∀ x ∈ xs, x.1.ac.length ≤ 30 := by
  unfold grB at h
  rw [Bool.or_eq_false_iff, List.any_eq_false] at h
  have h1 : xs.length ≤ 80 := by have := of_decide_eq_false h.2; omega
  refine ⟨h1, fun x hx => ?_⟩
  have := h.1 x (by rw [List.take_of_length_le (by omega)]; exact hx)
  have := of_decide_eq_false (Bool.eq_false_iff.2 this)
  omega

set_option maxRecDepth 100000 in
set_option maxHeartbeats 4000000 in
theorem great_any (a : Option Addr) (c : Nat) (xs : List P) (w : World) (hn : xs.length ≤ maxLen) (hA : AtM w a xs) :
    Calls Try.prog 24 #[.agg #[.slice a xs.length c]] w fun e w' => e = .returned (.bool (grB xs)) ∧ Below w.heap.size w w' := by
  unfold maxLen at hn
  have HA := Lib.hid hA
  have hbo : Below w.heap.size w (w.alloc (.cells #[.slice a xs.length c] 24)) := (Below.refl _ _).alloc (Nat.le_refl _) _
  have HX := Lib.hid (blk_new w (.cells #[.slice a xs.length c] 24))
  clear hA
  obtain ⟨r, hr⟩ : ∃ r, r = grB xs := ⟨_, rfl⟩
  rw [← hr]
  have HR := Lib.hid hr
  clear hr
  go_enter Try.func24, Try.ntmps24
  go_wp2_with fail
  generalize w.alloc _ = wo at hbo HX ⊢
  have x0 := cell_of HX.out 0 _ rfl
  go_loopw [3] (fun i wr => ∃ k : Nat, k ≤ xs.length ∧ k ≤ 81 ∧ i = .int .i64 k ∧ Hid (∀ i, i < k → ¬ 30 < (gp xs i).1.ac.length) ∧ wr = wo) (fun i _ => xs.length - (intOf i).toNat)
  case atStart => exact ⟨0, by omega, by omega, rfl, fun i hi => by omega, rfl⟩
  case round =>
    obtain ⟨k, hk, h81, rfl, HN, rfl⟩ := hrel
    by_cases hlt : k < xs.length
    · have g1 : (k : Int) < xs.length := by omega
      have g0 : (0 : Int) ≤ k := by omega
      by_cases h80 : k ≤ 80
      · have g2 : (k : Int) ≤ 80 := by omega
        obtain ⟨b, off, rfl, q0, q1, q2, q3, q4⟩ := at_p (HA.out.below hbo).ms k hlt
        by_cases h30 : 30 < (gp xs k).1.ac.length
        · have HE := Lib.hid (show r = true by rw [HR.out]; exact gr_yes hlt h80 h30)
          generalize gp xs k = x at q0 q1 q2 q3 q4 h30
          have h30' : (30 : Int) < x.1.ac.length := by omega
          clear HN h30
          go_wp2_with fail
          go_ret
          exact ⟨ret_bool HE.out.symm, hbo⟩
        · have HN2 := Lib.hid (show ∀ i, i < k + 1 → ¬ 30 < (gp xs i).1.ac.length from fun i hi => by
            rcases Nat.eq_or_lt_of_le (show i ≤ k by omega) with e | e
            · rw [e]; exact h30
            · exact HN.out i e)
          generalize gp xs k = x at q0 q1 q2 q3 q4 h30
          have h30' : ¬ (30 : Int) < x.1.ac.length := by omega
          clear HN h30
          go_wp2_with fail
          go_roundw
          case rel => exact ⟨k + 1, by omega, by omega, by go_num, HN2, by first | rfl | trivial⟩
          case measure => simp [intOf]; omega
      · have HE := Lib.hid (show r = true by rw [HR.out, gr_no (fun i _ h => HN.out i (by omega))]; exact decide_eq_true (by omega))
        have g2 : ¬ (k : Int) ≤ 80 := by omega
        have g3 : (80 : Int) < xs.length := by omega
        clear HN
        go_wp2_with fail
        go_ret
        exact ⟨by rw [HE.out]; rfl, hbo⟩
    · have g1 : ¬ (k : Int) < xs.length := by omega
      have HE := Lib.hid (show r = decide (80 < xs.length) by rw [HR.out, gr_no (fun i hi _ => HN.out i (by omega))])
      clear HN
      by_cases h80 : 80 < xs.length
      · have g3 : (80 : Int) < xs.length := by omega
        have HE2 := Lib.hid (show r = true by rw [HE.out, decide_eq_true h80])
        go_wp2_with fail
        go_ret
        exact ⟨by rw [HE2.out]; rfl, hbo⟩
      · have g3 : ¬ (80 : Int) < xs.length := by omega
        have HE2 := Lib.hid (show r = false by rw [HE.out, decide_eq_false h80])
        go_wp2_with fail
        go_ret
        exact ⟨by rw [HE2.out]; rfl, hbo⟩

set_option maxRecDepth 100000 in
set_option maxHeartbeats 4000000 in
theorem rfind_any (a : Option Addr) (c : Nat) (xs : List P) (t : ByteArray) (w : World) (hn : xs.length ≤ 1000) (hA : AtM w a xs) :
    Calls Try.prog 25 #[.agg #[.slice a xs.length c], .string t] w (FPost (fdM (fst xs) t) w) := by
  have HA := Lib.hid hA
  have hbo : Below w.heap.size w ((w.alloc (.cells #[.slice a xs.length c] 24)).alloc (.cells #[.string ⟨#[]⟩, .int .u8 0, .bool false, .int .i64 0, .slice none 0 0] 30)) := ((Below.refl _ _).alloc (Nat.le_refl _) _).alloc (by simp) _
  have HX := Lib.hid (blk_two w (.cells #[.slice a xs.length c] 24) (.cells #[.string ⟨#[]⟩, .int .u8 0, .bool false, .int .i64 0, .slice none 0 0] 30))
  obtain ⟨r, hr⟩ : ∃ r, r = fdM (fst xs) t := ⟨_, rfl⟩
  rw [← hr]
  have HR := Lib.hid hr
  clear hr hA
  go_enter Try.func25, Try.ntmps25
  go_wp2_with fail
  generalize (w.alloc _).alloc _ = wo at hbo HX ⊢
  have x0 := cell_of HX.out.1 0 _ rfl
  have y0 := cell_of HX.out.2 0 _ rfl
  have y1 := cell_of HX.out.2 1 _ rfl
  have y2 := cell_of HX.out.2 2 _ rfl
  have y3 := cell_of HX.out.2 3 _ rfl
  have y4 := cell_of HX.out.2 4 _ rfl
  have yf0 := frozen_of HX.out.2 0
  have yf1 := frozen_of HX.out.2 1
  have yf2 := frozen_of HX.out.2 2
  have yf3 := frozen_of HX.out.2 3
  have yf4 := frozen_of HX.out.2 4
  have hb : w.heap.size ≤ w.heap.size + 1 := by omega
  go_loopw [6] (fun i wr => ∃ k : Nat, k ≤ xs.length ∧ i = .int .i64 k ∧ Hid (∀ j, j < k → (gp xs j).1.nm ≠ t) ∧ wr = wo) (fun i _ => xs.length - (intOf i).toNat)
  case atStart => exact ⟨0, by omega, rfl, fun i hi => by omega, rfl⟩
  case round =>
    obtain ⟨k, hk, rfl, HN, rfl⟩ := hrel
    by_cases hlt : k < xs.length
    · have g1 : (k : Int) < xs.length := by omega
      have g0 : (0 : Int) ≤ k := by omega
      obtain ⟨b, off, rfl, q0, q1, q2, q3, q4⟩ := at_p (HA.out.below hbo).ms k hlt
      by_cases hx : (gp xs k).1.nm = t
      · have HR2 := Lib.hid (show r = ((gp xs k).1, true) by rw [HR.out]; exact fd_yes hlt hx HN.out)
        have HAC := Lib.hid (HA.out.ac _ (gp_mem xs k hlt))
        have he := eq_yes hx
        generalize gp xs k = x at q0 q1 q2 q3 q4 HR2 HAC he
        clear HN hx
        go_wp2_with fail
        have h5 := set5 HX.out.2 (.string x.1.nm) (.int .u8 x.1.ro) (.bool x.1.su) (.int .i64 x.1.lim) (.slice x.2.1 x.1.ac.length x.2.2)
        have r0 := cell_of h5 0 _ rfl
        have r1 := cell_of h5 1 _ rfl
        have r2 := cell_of h5 2 _ rfl
        have r3 := cell_of h5 3 _ rfl
        have r4 := cell_of h5 4 _ rfl
        have hbe := ((((hbo.setCell (p := ⟨w.heap.size + 1, 0, none⟩) hb (.string x.1.nm)).setCell (p := ⟨w.heap.size + 1, 1, none⟩) hb (.int .u8 x.1.ro)).setCell (p := ⟨w.heap.size + 1, 2, none⟩) hb (.bool x.1.su)).setCell (p := ⟨w.heap.size + 1, 3, none⟩) hb (.int .i64 x.1.lim)).setCell (p := ⟨w.heap.size + 1, 4, none⟩) hb (.slice x.2.1 x.1.ac.length x.2.2)
        refine bodyPost_ret (v := .tuple #[.agg #[.string x.1.nm, .int .u8 x.1.ro, .bool x.1.su, .int .i64 x.1.lim, .slice x.2.1 x.1.ac.length x.2.2], .bool true]) (by simp [results, Try.results25, go_sem, r0, r1, r2, r3, r4]) rfl ⟨x.2.1, x.2.2, by rw [HR2.out], by rw [HR2.out]; exact HAC.out.below hbe, hbe⟩
      · have HN2 := Lib.hid (show ∀ i, i < k + 1 → (gp xs i).1.nm ≠ t from fun i hi => by
          rcases Nat.eq_or_lt_of_le (show i ≤ k by omega) with e | e
          · rw [e]; exact hx
          · exact HN.out i e)
        have he := eq_no hx
        generalize gp xs k = x at q0 q1 q2 q3 q4 he
        clear HN hx
        go_wp2_with fail
        go_roundw
        case rel => exact ⟨k + 1, by omega, by go_num, HN2, by first | rfl | trivial⟩
        case measure => simp [intOf]; omega
    · have g1 : ¬ (k : Int) < xs.length := by omega
      have HR2 := Lib.hid (show r = (me0, false) by rw [HR.out]; exact fd_no (fun j hj => HN.out j (by omega)))
      clear HN
      go_wp2_with fail
      have h5 := set5 HX.out.2 (.string ⟨#[]⟩) (.int .u8 0) (.bool false) (.int .i64 0) (.slice none 0 0)
      have r0 := cell_of h5 0 _ rfl
      have r1 := cell_of h5 1 _ rfl
      have r2 := cell_of h5 2 _ rfl
      have r3 := cell_of h5 3 _ rfl
      have r4 := cell_of h5 4 _ rfl
      refine bodyPost_ret (v := .tuple #[.agg #[.string ⟨#[]⟩, .int .u8 0, .bool false, .int .i64 0, .slice none 0 0], .bool false]) (by simp [results, Try.results25, go_sem, r0, r1, r2, r3, r4]) rfl ⟨none, 0, by rw [HR2.out]; rfl, by rw [HR2.out]; exact AtL.nil _ _ _ _, ((((hbo.setCell (p := ⟨w.heap.size + 1, 0, none⟩) hb _).setCell (p := ⟨w.heap.size + 1, 1, none⟩) hb _).setCell (p := ⟨w.heap.size + 1, 2, none⟩) hb _).setCell (p := ⟨w.heap.size + 1, 3, none⟩) hb _).setCell (p := ⟨w.heap.size + 1, 4, none⟩) hb _⟩
end Go.Proofs.Ytoemjpfoddeinaa.Mb
