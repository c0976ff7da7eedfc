/-
  Margin: what a valid grid and a fitting portfolio are, plain; the walk of margin.Check.
-/
import Derived.Test.YtmljjofpbonplaaMg4
namespace Go.Proofs.Ytmljjofpbonplaa.Mg
open Go.RowKit Go.Proofs.Ytmljjofpbonplaa Go.Proofs.Ytmljjofpbonplaa.Nm

/-- is there a product of this name? -/
def hasB (P : Nat → PD) (np : Nat) (t : ByteArray) : Bool := (List.range np).any fun i => decide ((P i).nm = t)
theorem hasB_yes {P : Nat → PD} {np : Nat} {t : ByteArray} (h : hasB P np t = true) : ∃ I, I < np ∧ (P I).nm = t := by
  unfold hasB at h
  rw [List.any_eq_true] at h
  obtain ⟨i, hi, hd⟩ := h
  exact ⟨i, List.mem_range.1 hi, of_decide_eq_true hd⟩
theorem hasB_no {P : Nat → PD} {np : Nat} {t : ByteArray} (h : hasB P np t = false) : ∀ i, i < np → (P i).nm ≠ t := by
  intro i hi e
  unfold hasB at h
  rw [List.any_eq_false] at h
  exact h i (List.mem_range.2 hi) (decide_eq_true e)
theorem hasB_of {P : Nat → PD} {np : Nat} {t : ByteArray} (I : Nat) (hI : I < np) (e : (P I).nm = t) : hasB P np t = true := by
  unfold hasB
  rw [List.any_eq_true]
  exact ⟨I, List.mem_range.2 hI, decide_eq_true e⟩

/-- what a valid grid gives -/
structure GridOk (W : Nat → Int) (nw : Nat) (P : Nat → PD) (np : Nat) : Prop where
  w1 : 1 ≤ nw
  w50 : nw ≤ 50
  p32 : np ≤ 32
  ws : ∀ i, i < nw → 1 ≤ W i ∧ W i ≤ 1000
  name : ∀ i, i < np → nm (P i).nm = true
  sorted : Sorted np (fun i => (P i).nm)
  len : ∀ i, i < np → (P i).len = nw
  mv : ∀ i, i < np → ∀ s, s < nw → -8388608 ≤ (P i).mv s ∧ (P i).mv s ≤ 8388608
  fee : ∀ i, i < np → 0 ≤ (P i).fee ∧ (P i).fee ≤ 8388608

theorem pdBad_false {P : Nat → PD} {nw i : Nat} (h : pdBad P nw i = false) :
    nm (P i).nm = true ∧ (0 < i → lt (P (i - 1)).nm (P i).nm = true) ∧ (P i).len = nw ∧ anyI mBad (P i).mv (P i).len = false ∧ 0 ≤ (P i).fee ∧ (P i).fee ≤ 8388608 := by
  unfold pdBad at h
  simp only [Bool.or_eq_false_iff, Bool.and_eq_false_iff, Bool.not_eq_false', decide_eq_false_iff_not, bne_eq_false_iff_eq] at h
  obtain ⟨⟨⟨⟨⟨h1, h2⟩, h3⟩, h4⟩, h5⟩, h6⟩ := h
  refine ⟨h1, fun hi => ?_, by omega, h4, by omega, by omega⟩
  rcases h2 with h2 | h2
  · omega
  · exact h2
theorem pdBad_of {P : Nat → PD} {nw i : Nat} (h1 : nm (P i).nm = true) (h2 : 0 < i → lt (P (i - 1)).nm (P i).nm = true) (h3 : (P i).len = nw) (h4 : anyI mBad (P i).mv (P i).len = false) (h5 : 0 ≤ (P i).fee) (h6 : (P i).fee ≤ 8388608) : pdBad P nw i = false := by
  unfold pdBad
  simp only [Bool.or_eq_false_iff, Bool.and_eq_false_iff, Bool.not_eq_false', decide_eq_false_iff_not, bne_eq_false_iff_eq]
  refine ⟨⟨⟨⟨⟨h1, ?_⟩, by omega⟩, h4⟩, by omega⟩, by omega⟩
  by_cases hi : 0 < i
  · exact .inr (h2 hi)
  · exact .inl (by omega)

theorem anyI_false {p : Int → Bool} {f : Nat → Int} {n : Nat} (h : anyI p f n = false) : ∀ i, i < n → p (f i) = false := by
  intro i hi
  unfold anyI at h
  rw [List.any_eq_false] at h
  have := h i (List.mem_range.2 hi)
  simpa using this
theorem gridB_ok {W : Nat → Int} {nw : Nat} {P : Nat → PD} {np : Nat} (h : gridB W nw P np = true) : GridOk W nw P np := by
  unfold gridB at h
  rw [Bool.and_eq_true, Bool.and_eq_true, decide_eq_true_iff] at h
  obtain ⟨⟨⟨h1, h2, h3⟩, h4⟩, h5⟩ := h
  have hp : ∀ i, i < np → pdBad P nw i = false := by
    intro i hi
    unfold pdB at h5
    rw [List.all_eq_true] at h5
    have := h5 i (List.mem_range.2 hi)
    simpa using this
  have hw : anyI wBad W nw = false := by simpa using h4
  refine ⟨h1, h2, h3, fun i hi => ?_, fun i hi => (pdBad_false (hp i hi)).1, fun i h0 hi => (pdBad_false (hp i hi)).2.1 h0, fun i hi => (pdBad_false (hp i hi)).2.2.1, fun i hi s hs => ?_, fun i hi => (pdBad_false (hp i hi)).2.2.2.2⟩
  · have := anyI_false hw i hi
    unfold wBad at this
    rw [decide_eq_false_iff_not] at this
    omega
  · have hb := pdBad_false (hp i hi)
    have := anyI_false hb.2.2.2.1 s (by rw [hb.2.2.1]; exact hs)
    unfold mBad at this
    simp only [Bool.not_eq_false', decide_eq_true_eq] at this
    exact this
theorem gridB_of {W : Nat → Int} {nw : Nat} {P : Nat → PD} {np : Nat} (h : GridOk W nw P np) : gridB W nw P np = true := by
  have hw : anyI wBad W nw = false := anyI_no _ _ _ (fun i hi => by have := h.ws i hi; unfold wBad; rw [decide_eq_false_iff_not]; omega)
  have hp : pdB P np nw = true := pdB_good _ _ _ (fun i hi => pdBad_of (h.name i hi) (fun h0 => h.sorted i h0 hi) (h.len i hi)
    (anyI_no _ _ _ (fun s hs => by have := h.mv i hi s (by rw [← h.len i hi]; exact hs); unfold mBad; simp; omega)) (h.fee i hi).1 (h.fee i hi).2)
  unfold gridB
  rw [decide_eq_true ⟨h.w1, h.w50, h.p32⟩, hw, hp]
  rfl

/-- what a valid portfolio gives -/
structure PfOk (T : Nat → ByteArray) (Q : Nat → Int) (n : Nat) : Prop where
  n32 : n ≤ 32
  name : ∀ i, i < n → nm (T i) = true
  sorted : Sorted n T
  nz : ∀ i, i < n → Q i ≠ 0
  q : ∀ i, i < n → -1048576 ≤ Q i ∧ Q i ≤ 1048576
theorem pfB_ok {T : Nat → ByteArray} {Q : Nat → Int} {n : Nat} (h : pfB T Q n = true) : PfOk T Q n := by
  unfold pfB at h
  rw [Bool.and_eq_true, decide_eq_true_iff, List.all_eq_true] at h
  have hp : ∀ i, i < n → posBad T Q i = false := fun i hi => by have := h.2 i (List.mem_range.2 hi); simpa using this
  have hq : ∀ i, i < n → nm (T i) = true ∧ (0 < i → lt (T (i - 1)) (T i) = true) ∧ Q i ≠ 0 ∧ -1048576 ≤ Q i ∧ Q i ≤ 1048576 := by
    intro i hi
    have hb := hp i hi
    unfold posBad at hb
    simp only [Bool.or_eq_false_iff, Bool.and_eq_false_iff, Bool.not_eq_false', decide_eq_false_iff_not, beq_eq_false_iff_ne, decide_eq_true_eq] at hb
    obtain ⟨⟨⟨h1, h2⟩, h3⟩, h4⟩ := hb
    refine ⟨h1, fun h0 => ?_, h3, h4.1, h4.2⟩
    rcases h2 with h2 | h2
    · omega
    · exact h2
  exact ⟨h.1, fun i hi => (hq i hi).1, fun i h0 hi => (hq i hi).2.1 h0, fun i hi => (hq i hi).2.2.1, fun i hi => (hq i hi).2.2.2⟩
theorem pfB_of {T : Nat → ByteArray} {Q : Nat → Int} {n : Nat} (h : PfOk T Q n) : pfB T Q n = true := by
  refine pfB_good _ _ _ h.n32 (fun i hi => ?_)
  unfold posBad
  simp only [Bool.or_eq_false_iff, Bool.and_eq_false_iff, Bool.not_eq_false', decide_eq_false_iff_not, beq_eq_false_iff_ne, decide_eq_true_eq]
  refine ⟨⟨⟨h.name i hi, ?_⟩, h.nz i hi⟩, h.q i hi⟩
  by_cases h0 : 0 < i
  · exact .inr (h.sorted i h0 hi)
  · exact .inl (by omega)

/-- does the portfolio fit the grid? -/
def fitB (W : Nat → Int) (nw : Nat) (P : Nat → PD) (np : Nat) (T : Nat → ByteArray) (Q : Nat → Int) (n : Nat) : Bool :=
  gridB W nw P np && (pfB T Q n && (List.range n).all fun i => hasB P np (T i))

/-- product at a valid grid: whatever it is, whether it is there -/
theorem product_is (wa pa : Option Addr) (nw wc np pc : Nat) (P : Nat → PD) (t : ByteArray) (w : World) (hn : np ≤ 1000) (hA : ProdsAt w pa np P) (hS : Sorted np (fun i => (P i).nm)) :
    Calls Try.prog 40 #[.agg #[.slice wa nw wc, .slice pa np pc], .string t] w fun e w' => ∃ (s : ByteArray) (a : Option Addr) (l c : Nat) (f : Int), e = .returned (.tuple #[.agg #[.string s, .slice a l c, .int .i64 f], .bool (hasB P np t)]) ∧ Below w.heap.size w w' := by
  rcases hb (hasB P np t) with h | h
  · obtain ⟨I, hI, e⟩ := hasB_yes h
    rw [h]
    refine (product_yes wa pa nw wc np pc P t I w hn hA hS hI e).mono ?_
    rintro e w' ⟨rfl, hb⟩
    exact ⟨_, _, _, _, _, rfl, hb⟩
  · rw [h]
    refine (product_no wa pa nw wc np pc P t w hn hA hS (hasB_no h)).mono ?_
    rintro e w' ⟨rfl, hb⟩
    exact ⟨_, _, _, _, _, rfl, hb⟩

set_option maxRecDepth 100000 in
set_option maxHeartbeats 4000000 in
theorem check_any (wa pa la : Option Addr) (nw wc np pc n lc : Nat) (W : Nat → Int) (P : Nat → PD) (T : Nat → ByteArray) (Q : Nat → Int) (w : World) (hw0 : nw ≤ maxLen) (hp0 : np ≤ maxLen) (hn0 : n ≤ maxLen) (hok : PDok P) (hT : ∀ i, (T i).size ≤ maxLen)
    (hW : IntsAt w wa nw W) (hA : ProdsAt w pa np P) (hL : PosAt w la n T Q) :
    Calls Try.prog 26 #[.agg #[.slice wa nw wc, .slice pa np pc], .slice la n lc] w fun e w' => e = .returned (.int .i64 (errV (fitB W nw P np T Q n))) ∧ Below w.heap.size w w' := by
  have hblk := blk_new w (.cells #[.slice wa nw wc, .slice pa np pc] 25)
  have hbo : Below w.heap.size w (w.alloc (.cells #[.slice wa nw wc, .slice pa np pc] 25)) := (Below.refl _ _).alloc (Nat.le_refl _) _
  have HG := Lib.hid (checkGrid_any wa pa nw wc np pc W P _ hw0 hp0 hok (hW.below hbo) (hA.below hbo))
  have HA := Lib.hid hA
  have HL := Lib.hid hL
  have HT := Lib.hid hT
  have HN := Lib.hid hn0
  have HB := Lib.hid hbo
  have HX0 := Lib.hid hblk
  clear hw0 hp0 hn0 hok hT hW hA hL hbo hblk
  rcases hb (gridB W nw P np) with hg | hg
  · have HO := Lib.hid (gridB_ok hg)
    have HGB := Lib.hid hg
    clear hg
    rcases hb (pfB T Q n) with hp | hp
    · have HPB := Lib.hid hp
      have HPO := Lib.hid (pfB_ok hp)
      clear hp
      go_enter Try.func26, Try.ntmps26
      go_wp2_with fail
      refine HG.out.mono ?_
      rintro e w1 ⟨rfl, hb1⟩
      rw [HGB.out]
      have c1 := bt HB.out hb1 (by simp)
      have HX1 := Lib.hid (blk_keep HX0.out hb1)
      have hev : errV true = 0 := rfl
      rw [hev]
      clear hev HX0 HB hb1
      go_wp2_with fail
      refine (portfolio_any la n lc T Q _ (by have := HN.out; unfold maxLen at this; omega) HT.out (HL.out.below c1)).mono ?_
      rintro e w2 ⟨rfl, hb2⟩
      rw [HPB.out]
      have c2 := bt c1 hb2 (Nat.le_refl _)
      have HX2 := Lib.hid (blk_keep HX1.out hb2)
      have hev : errV true = 0 := rfl
      rw [hev]
      clear hev HX1 c1 hb2
      have hn32 : n ≤ 32 := HPO.out.n32
      go_wp2_with fail
      go_loopw [6, 7, 8, 19] (fun _ _ _ c wr => ∃ k : Nat, k ≤ n ∧ c = .int .i64 k ∧ Hid (∀ i, i < k → hasB P np (T i) = true) ∧ Below w.heap.size w wr ∧ Hid (wr.heap[w.heap.size]? = some (.cells #[.slice wa nw wc, .slice pa np pc] 25 (0, 0)))) (fun _ _ _ c _ => n - (intOf c).toNat)
      case atStart => exact ⟨0, by omega, rfl, Lib.hid (fun i hi => by omega), c2, HX2⟩
      case round =>
        clear HX2 c2
        obtain ⟨k, hk, rfl, HR, hbw, HX⟩ := hrel
        by_cases hlt : k < n
        · obtain ⟨b, off, rfl, q0, q1⟩ := (HL.out.below hbw) k hlt
          have x0 : wr.cell? ⟨w.heap.size, 0, none⟩ = some (.slice wa nw wc) := cell_of HX.out 0 _ rfl
          have x1 : wr.cell? ⟨w.heap.size, 1, none⟩ = some (.slice pa np pc) := cell_of HX.out 1 _ rfl
          have hws : w.heap.size < wr.heap.size := World.block_lt_of_cell? _ _ x1
          have HB2 := Lib.hid (hbw.alloc hbw.size (.cells #[.string (T k), .int .i64 (Q k)] 51))
          have HX := Lib.hid (blk_past wr (.cells #[.string (T k), .int .i64 (Q k)] 51) HX.out)
          go_wp2_with fail
          refine (product_is wa pa nw wc np pc P (T k) _ (by have := HO.out.p32; omega) (HA.out.below HB2.out) HO.out.sorted).mono ?_
          rintro e w3 ⟨s, a, l, c, f, rfl, hb3⟩
          have c3 := bt HB2.out hb3 (by simp)
          have HX3 := Lib.hid (blk_keep HX.out hb3)
          clear HX HB2 hb3 x0 x1
          rcases hb (hasB P np (T k)) with hh | hh
          · have HR2 : Hid (∀ i, i < k + 1 → hasB P np (T i) = true) := fun i hi => by
              rcases Nat.lt_or_ge i k with g | g
              · exact HR.out i g
              · obtain rfl : i = k := by omega
                exact hh
            rw [hh]
            clear hh
            go_wp2
            go_roundw
            case rel => exact ⟨k + 1, by omega, by go_num, HR2, c3.alloc c3.size _, Lib.hid (blk_past _ _ HX3.out)⟩
            case measure => simp [intOf]; omega
          · have HF : Hid (fitB W nw P np T Q n = false) := by
              have : ((List.range n).all fun i => hasB P np (T i)) = false := by
                rw [List.all_eq_false]
                exact ⟨k, List.mem_range.2 hlt, by simp [hh]⟩
              unfold Hid fitB
              rw [this, Bool.and_false, Bool.and_false]
            rw [hh]
            clear hh
            go_wp2
            go_ret
            exact ⟨by rw [HF.out]; rfl, c3.alloc c3.size _⟩
        · have HF : Hid (fitB W nw P np T Q n = true) := by
            have : ((List.range n).all fun i => hasB P np (T i)) = true := by
              rw [List.all_eq_true]
              intro i hi
              exact HR.out i (by have := List.mem_range.1 hi; omega)
            unfold Hid fitB
            rw [this, HGB.out, HPB.out]
            rfl
          go_wp2
          go_ret
          exact ⟨by rw [HF.out]; rfl, hbw⟩
    · have HPB := Lib.hid hp
      have HF := Lib.hid (show fitB W nw P np T Q n = false by unfold fitB; rw [hp, Bool.false_and, Bool.and_false])
      clear hp
      go_enter Try.func26, Try.ntmps26
      go_wp2_with fail
      refine HG.out.mono ?_
      rintro e w1 ⟨rfl, hb1⟩
      rw [HGB.out]
      have c1 := bt HB.out hb1 (by simp)
      have hev : errV true = 0 := rfl
      rw [hev]
      clear hev hb1
      go_wp2_with fail
      refine (portfolio_any la n lc T Q _ (by have := HN.out; unfold maxLen at this; omega) HT.out (HL.out.below c1)).mono ?_
      rintro e w2 ⟨rfl, hb2⟩
      rw [HPB.out]
      have c2 := bt c1 hb2 (Nat.le_refl _)
      have hev : errV false = 8 := rfl
      rw [hev]
      clear hev
      go_wp2
      go_ret
      exact ⟨by rw [HF.out]; rfl, c2⟩
  · have HGB := Lib.hid hg
    have HF := Lib.hid (show fitB W nw P np T Q n = false by unfold fitB; rw [hg, Bool.false_and])
    clear hg
    go_enter Try.func26, Try.ntmps26
    go_wp2_with fail
    refine HG.out.mono ?_
    rintro e w1 ⟨rfl, hb1⟩
    rw [HGB.out]
    have c1 := bt HB.out hb1 (by simp)
    have hev : errV false = 8 := rfl
    rw [hev]
    clear hev
    go_wp2
    go_ret
    exact ⟨by rw [HF.out]; rfl, c1⟩
end Go.Proofs.Ytmljjofpbonplaa.Mg
