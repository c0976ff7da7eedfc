/-
  Plain laws of dates and texts: days are ordered as their dates and as their texts; a text of the form of a date spells its parts.
-/
import Derived.Test.YtaogoednndlaeaaDateLawC
namespace Go.Proofs.Ytaogoednndlaeaa.Dt
open Go.RowKit Go.Proofs.Ytaogoednndlaeaa

theorem lex_lt {y m d n y' m' d' n' : Int} (h : IsDate y m d n) (h' : IsDate y' m' d' n') (hl : y < y' ∨ (y = y' ∧ (m < m' ∨ (m = m' ∧ d < d')))) : n < n' := by
  have a := h.year
  have a' := h'.year
  have b := h.month
  have b' := h'.month
  rcases hl with k | ⟨rfl, k | ⟨rfl, k⟩⟩
  · have := first_mono (y + 1) y' (by omega)
    omega
  · have := cum_mono y m m' h.2.2.1 k (by have := h'.2.2.2.1; omega)
    omega
  · have := h.num
    have := h'.num
    unfold dnum at *
    omega

theorem lex_iff {y m d n y' m' d' n' : Int} (h : IsDate y m d n) (h' : IsDate y' m' d' n') : n < n' ↔ (y < y' ∨ (y = y' ∧ (m < m' ∨ (m = m' ∧ d < d')))) := by
  refine ⟨fun hn => ?_, lex_lt h h'⟩
  rcases Int.lt_trichotomy y y' with k | k | k
  · exact .inl k
  · rcases Int.lt_trichotomy m m' with g | g | g
    · exact .inr ⟨k, .inl g⟩
    · rcases Int.lt_trichotomy d d' with i | i | i
      · exact .inr ⟨k, .inr ⟨g, i⟩⟩
      · subst k g i
        have := h.num
        have := h'.num
        omega
      · have := lex_lt h' h (.inr ⟨k.symm, .inr ⟨g.symm, i⟩⟩)
        omega
    · have := lex_lt h' h (.inr ⟨k.symm, .inl g⟩)
      omega
  · have := lex_lt h' h (.inl k)
    omega

theorem snoc_ind {P : List UInt8 → Prop} (h0 : P []) (h1 : ∀ l c, P l → P (l ++ [c])) : ∀ l, P l := by
  intro l
  rw [← List.reverse_reverse l]
  induction l.reverse with
  | nil => exact h0
  | cons c t ih =>
    rw [List.reverse_cons]
    exact h1 _ _ ih

theorem dg_isD (n : Int) : isD (dg n) = true := by
  rw [isD_iff, dg_nat]
  omega
theorem digs_isD (j : Nat) (n : Int) : ∀ c ∈ digs j n, isD c = true := by
  induction j generalizing n with
  | zero => intro c hc; simp [digs] at hc
  | succ j ih =>
    intro c hc
    rw [digs, List.mem_append, List.mem_singleton] at hc
    rcases hc with hc | rfl
    · exact ih _ c hc
    · exact dg_isD n
theorem val_digs (j : Nat) (n : Int) (h0 : 0 ≤ n) (h1 : n < 10 ^ j) : val (digs j n) = n := by
  induction j generalizing n with
  | zero => simp [digs, val_nil]; omega
  | succ j ih =>
    rw [digs, val_snoc, dg_nat, ih (n / 10) (by omega) (by rw [Int.pow_succ] at h1; omega)]
    omega
theorem digs_val (l : List UInt8) : (∀ c ∈ l, isD c = true) → digs l.length (val l) = l := by
  refine snoc_ind (P := fun l => (∀ c ∈ l, isD c = true) → digs l.length (val l) = l) (fun _ => rfl) (fun l c ih h => ?_) l
  have h1 := (isD_iff c).1 (h c (by simp))
  have h2 := ih (fun x hx => h x (by simp [hx]))
  rw [List.length_append, List.length_singleton, digs, val_snoc]
  have e1 : (10 * val l + ((c.toNat : Int) - 48)) / 10 = val l := by omega
  have e2 : dg (10 * val l + ((c.toNat : Int) - 48)) = c := by
    rw [← UInt8.toNat_inj]
    have := dg_nat (10 * val l + ((c.toNat : Int) - 48))
    omega
  rw [e1, e2, h2]

/-! ### texts, byte by byte -/
theorem less_append (a b x y : List UInt8) (h : a.length = b.length) : Op.bytesLess (a ++ x) (b ++ y) = (Op.bytesLess a b || (a == b && Op.bytesLess x y)) := by
  induction a generalizing b with
  | nil =>
    obtain rfl : b = [] := List.eq_nil_of_length_eq_zero h.symm
    simp [Op.bytesLess]
  | cons c a ih =>
    cases b with
    | nil => simp at h
    | cons e b =>
      have h2 := ih b (by simpa using h)
      simp only [List.cons_append, Op.bytesLess, h2]
      have e3 : (c :: a == e :: b) = (c == e && a == b) := rfl
      rw [e3]
      cases decide (c < e) <;> cases (c == e) <;> simp
theorem less_same (x y : List UInt8) (c : UInt8) : Op.bytesLess (c :: x) (c :: y) = Op.bytesLess x y := by
  simp [Op.bytesLess]

theorem val_acc2 (l : List UInt8) (a : Int) : l.foldl (fun a c => 10 * a + ((c.toNat : Int) - 48)) a = a * 10 ^ l.length + val l := by
  induction l generalizing a with
  | nil => simp [val_nil]
  | cons c l ih =>
    have h0 : val (c :: l) = l.foldl (fun a c => 10 * a + ((c.toNat : Int) - 48)) (10 * 0 + ((c.toNat : Int) - 48)) := rfl
    rw [List.foldl_cons, ih, h0, ih, List.length_cons, Int.pow_succ, Int.add_mul, Int.add_mul]
    have : 10 * a * 10 ^ l.length = a * (10 ^ l.length * 10) := by rw [Int.mul_comm 10 a, Int.mul_assoc, Int.mul_comm 10]
    omega
theorem val_cons (c : UInt8) (l : List UInt8) : val (c :: l) = ((c.toNat : Int) - 48) * 10 ^ l.length + val l := by
  have := val_acc2 l (10 * 0 + ((c.toNat : Int) - 48))
  have h0 : val (c :: l) = l.foldl (fun a c => 10 * a + ((c.toNat : Int) - 48)) (10 * 0 + ((c.toNat : Int) - 48)) := rfl
  rw [h0, this]
  simp

theorem less_val (a b : List UInt8) (h : a.length = b.length) (ha : ∀ c ∈ a, isD c = true) (hb : ∀ c ∈ b, isD c = true) : Op.bytesLess a b = decide (val a < val b) ∧ (a = b ↔ val a = val b) := by
  induction a generalizing b with
  | nil =>
    obtain rfl : b = [] := List.eq_nil_of_length_eq_zero h.symm
    simp [Op.bytesLess]
  | cons c a ih =>
    cases b with
    | nil => simp at h
    | cons e b =>
      have hl : a.length = b.length := by simpa using h
      have h2 := ih b hl (fun x hx => ha x (by simp [hx])) (fun x hx => hb x (by simp [hx]))
      have va := val_pow a (fun x hx => ha x (by simp [hx]))
      have vb := val_pow b (fun x hx => hb x (by simp [hx]))
      have ec := val_cons c a
      have ee := val_cons e b
      rw [hl] at va ec
      generalize (10 : Int) ^ b.length = p at *
      have hce : c < e ↔ c.toNat < e.toNat := UInt8.lt_iff_toNat_lt
      have hce2 : c = e ↔ c.toNat = e.toNat := UInt8.toNat_inj.symm
      rcases Nat.lt_trichotomy c.toNat e.toNat with g | g | g
      · have h3 : val (c :: a) < val (e :: b) := by
          have h4 : ((c.toNat : Int) - 48 + 1) * p ≤ ((e.toNat : Int) - 48) * p := Int.mul_le_mul_of_nonneg_right (by omega) (by omega)
          rw [Int.add_mul] at h4
          omega
        refine ⟨by simp [Op.bytesLess, hce.2 g, h3], ?_⟩
        rw [List.cons.injEq, hce2]
        omega
      · have hc : c = e := hce2.2 g
        subst hc
        refine ⟨?_, ?_⟩
        · rw [less_same, h2.1]
          congr 1
          exact propext ⟨fun _ => by omega, fun _ => by omega⟩
        · rw [List.cons.injEq, h2.2]
          exact ⟨fun k => by have := k.2; omega, fun k => ⟨rfl, by omega⟩⟩
      · have h3 : val (e :: b) < val (c :: a) := by
          have h4 : ((e.toNat : Int) - 48 + 1) * p ≤ ((c.toNat : Int) - 48) * p := Int.mul_le_mul_of_nonneg_right (by omega) (by omega)
          rw [Int.add_mul] at h4
          omega
        have hn : ¬ c < e := fun k => by have := hce.1 k; omega
        have hne : (c == e) = false := by rw [beq_eq_false_iff_ne]; exact fun k => by have := hce2.1 k; omega
        refine ⟨?_, ?_⟩
        · have hx : decide (val (c :: a) < val (e :: b)) = false := by rw [decide_eq_false_iff_not]; omega
          rw [hx]
          simp [Op.bytesLess, hn, hne]
        · rw [List.cons.injEq, hce2]
          omega

theorem less_digs (j : Nat) (a b : Int) (ha : 0 ≤ a ∧ a < 10 ^ j) (hb : 0 ≤ b ∧ b < 10 ^ j) : Op.bytesLess (digs j a) (digs j b) = decide (a < b) ∧ (digs j a = digs j b ↔ a = b) := by
  have h := less_val (digs j a) (digs j b) (by rw [digs_length, digs_length]) (digs_isD j a) (digs_isD j b)
  rw [val_digs j a ha.1 ha.2, val_digs j b hb.1 hb.2] at h
  exact h

theorem text_less {y m d n y' m' d' n' : Int} (h : IsDate y m d n) (h' : IsDate y' m' d' n') : Op.bytesLess (textL y m d) (textL y' m' d') = decide (n < n') := by
  have hml := mlen_bd y m
  have hml' := mlen_bd y' m'
  have hx := lex_iff h h'
  obtain ⟨a1, a2, a3, a4, a5, a6, _⟩ := h
  obtain ⟨b1, b2, b3, b4, b5, b6, _⟩ := h'
  have hy := less_digs 4 y y' (by omega) (by omega)
  have hm := less_digs 2 m m' (by omega) (by omega)
  have hd := less_digs 2 d d' (by omega) (by omega)
  have e : ∀ y m d : Int, textL y m d = digs 4 y ++ (45 :: (digs 2 m ++ (45 :: digs 2 d))) := fun y m d => by simp [textL]
  rw [e, e, less_append _ _ _ _ (by rw [digs_length, digs_length]), less_same, less_append _ _ _ _ (by rw [digs_length, digs_length]), less_same, hy.1, hm.1, hd.1]
  have by' : (digs 4 y == digs 4 y') = decide (y = y') := by rw [Bool.eq_iff_iff, beq_iff_eq, decide_eq_true_iff]; exact hy.2
  have bm : (digs 2 m == digs 2 m') = decide (m = m') := by rw [Bool.eq_iff_iff, beq_iff_eq, decide_eq_true_iff]; exact hm.2
  rw [by', bm, Bool.eq_iff_iff]
  simp only [Bool.or_eq_true, Bool.and_eq_true, decide_eq_true_iff]
  exact hx.symm

/-- the text of a date is read as this date -/
theorem ps_text {y m d n : Int} (h : IsDate y m d n) (hn : n ≤ 99999) : psV (textL y m d) = n ∧ psE (textL y m d) = 0 := by
  have hml := mlen_bd y m
  have hof := of_date h hn
  obtain ⟨a1, a2, a3, a4, a5, a6, _⟩ := h
  have e : textL y m d = digs 4 y ++ (45 :: (digs 2 m ++ (45 :: digs 2 d))) := by simp [textL]
  have l4 : (digs 4 y).length = 4 := digs_length 4 y
  have l2 : (digs 2 m).length = 2 := digs_length 2 m
  have t4 : (textL y m d).take 4 = digs 4 y := by rw [e, List.take_append_of_le_length (by omega), List.take_of_length_le (by omega)]
  have d5 : (textL y m d).drop 5 = digs 2 m ++ (45 :: digs 2 d) := by rw [e, List.drop_append, l4]; simp [List.drop_of_length_le, l4]
  have t2 : ((textL y m d).drop 5).take 2 = digs 2 m := by rw [d5, List.take_append_of_le_length (by omega), List.take_of_length_le (by omega)]
  have d8 : (textL y m d).drop 8 = digs 2 d := by
    have : (textL y m d).drop 8 = ((textL y m d).drop 5).drop 3 := by rw [List.drop_drop]
    rw [this, d5, List.drop_append, l2]
    simp [List.drop_of_length_le, l2]
  have g4 : (textL y m d).getD 4 0 = 45 := by rw [e, List.getD_eq_getElem?_getD, List.getElem?_append_right (by omega), l4]; rfl
  have g7 : (textL y m d).getD 7 0 = 45 := by
    rw [e, List.getD_eq_getElem?_getD, List.getElem?_append_right (by omega), l4, show 7 - 4 = 2 + 1 from rfl, List.getElem?_cons_succ, List.getElem?_append_right (by omega), l2]
    rfl
  have hf : frm (textL y m d) = true := by
    unfold frm
    rw [textL_length, g4, g7, t4, t2, d8]
    have n4 : numB (digs 4 y) = true := by unfold numB; rw [List.all_eq_true]; exact digs_isD 4 y
    have n2 : numB (digs 2 m) = true := by unfold numB; rw [List.all_eq_true]; exact digs_isD 2 m
    have n3 : numB (digs 2 d) = true := by unfold numB; rw [List.all_eq_true]; exact digs_isD 2 d
    rw [n4, n2, n3]
    rfl
  unfold psV psE
  rw [if_pos hf, if_pos hf, t4, t2, d8, val_digs 4 y (by omega) (by omega), val_digs 2 m (by omega) (by omega), val_digs 2 d (by omega) (by omega)]
  exact hof

/-- what Parse accepts is the text of its day -/
theorem ps_ok {l : List UInt8} (h : psE l = 0) : ∃ y m d : Int, IsDate y m d (psV l) ∧ psV l ≤ 99999 ∧ textL y m d = l := by
  unfold psE at h
  split at h
  · rename_i hf
    have hv : vld (val (l.take 4)) (val ((l.drop 5).take 2)) (val (l.drop 8)) = true := by
      unfold ofE at h
      split at h
      · assumption
      · omega
    have hV : psV l = dnum (val (l.take 4)) (val ((l.drop 5).take 2)) (val (l.drop 8)) := by
      unfold psV ofV
      rw [if_pos hf, if_pos hv]
    obtain ⟨b1, b2, b3, b4, b5, b6, b7⟩ := (vld_iff _ _ _).1 hv
    refine ⟨_, _, _, ⟨b1, b2, b3, b4, b5, b6, hV.symm⟩, by omega, ?_⟩
    unfold frm at hf
    simp only [Bool.and_eq_true, beq_iff_eq] at hf
    obtain ⟨⟨hlen, h4, h7⟩, ⟨n1, n2⟩, n3⟩ := hf
    have q1 := digs_val (l.take 4) (by unfold numB at n1; rw [List.all_eq_true] at n1; exact n1)
    have q2 := digs_val ((l.drop 5).take 2) (by unfold numB at n2; rw [List.all_eq_true] at n2; exact n2)
    have q3 := digs_val (l.drop 8) (by unfold numB at n3; rw [List.all_eq_true] at n3; exact n3)
    have r1 : (l.take 4).length = 4 := by rw [List.length_take]; omega
    have r2 : ((l.drop 5).take 2).length = 2 := by rw [List.length_take, List.length_drop]; omega
    have r3 : (l.drop 8).length = 2 := by rw [List.length_drop]; omega
    rw [r1] at q1
    rw [r2] at q2
    rw [r3] at q3
    unfold textL
    rw [q1, q2, q3, ← h4]
    match l, hlen with
    | [c0, c1, c2, c3, c4, c5, c6, c7, c8, c9], _ =>
      have e4 : c4 = 45 := h4
      have e7 : c7 = 45 := h7
      subst e4 e7
      rfl
  · omega
end Go.Proofs.Ytaogoednndlaeaa.Dt
