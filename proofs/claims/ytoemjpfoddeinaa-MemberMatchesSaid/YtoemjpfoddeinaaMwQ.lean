/-
  Member: what a change does to the accounts, plainly.
-/
import Derived.Test.YtoemjpfoddeinaaMwP
namespace Go.Proofs.Ytoemjpfoddeinaa.Mb
open Go.RowKit Go.Proofs.Ytoemjpfoddeinaa Go.Proofs.Ytoemjpfoddeinaa.Ls Go.Proofs.Ytoemjpfoddeinaa.Kb
open Go.Proofs.Ytoemjpfoddeinaa.Nm hiding ret_bool ret_int

/-- the accounts ahead of a name and behind it -/
def LoA (A : List Ac) (t : ByteArray) : Prop := ∀ x ∈ A, lt x.nm t = true
def HiA (B : List Ac) (t : ByteArray) : Prop := ∀ x ∈ B, lt t x.nm = true
theorem a_pos {A B : List Ac} {t : ByteArray} (hA : LoA A t) (hB : ∀ x ∈ B.head?, lt x.nm t = false) : pos (nas (A ++ B)) t = A.length := by
  unfold pos nas
  induction A with
  | nil =>
    cases B with
    | nil => rfl
    | cons x B =>
      have := hB x rfl
      simp [this]
  | cons x A ih =>
    have h1 := hA x (List.mem_cons_self)
    have h2 := ih (fun y hy => hA y (List.mem_cons_of_mem _ hy))
    simp only [List.cons_append, List.map_cons, List.takeWhile_cons, h1, if_true, List.length_cons]
    rw [h2]
theorem a_pos_mid {A B : List Ac} {a : Ac} {t : ByteArray} (hA : LoA A t) (ha : a.nm = t) : pos (nas (A ++ a :: B)) t = A.length := a_pos hA (by intro x hx; cases hx; rw [ha]; exact lt_irrefl _)
theorem a_has {A B : List Ac} {a : Ac} {t : ByteArray} (ha : a.nm = t) : has (nas (A ++ a :: B)) t = true := by
  unfold has nas
  simp [ha]
theorem ga_mid (A B : List Ac) (a : Ac) : ga (A ++ a :: B) A.length = a := by
  unfold ga
  rw [List.getD_eq_getElem?_getD, List.getElem?_append_right (Nat.le_refl _), Nat.sub_self]
  rfl
theorem addU_mid (A B : List Ac) (a : Ac) (n : Int) : addU (A ++ a :: B) A.length n = A ++ { a with us := a.us + n } :: B := by
  unfold addU
  rw [ga_mid]
  simp
theorem a_split {l : List Ac} {t : ByteArray} (h : srt (nas l) = true) (hh : has (nas l) t = true) : ∃ A a B, l = A ++ a :: B ∧ a.nm = t ∧ LoA A t ∧ HiA B t := by
  unfold has nas at hh
  rw [List.any_eq_true] at hh
  obtain ⟨y, hy, e⟩ := hh
  obtain ⟨m, hm, rfl⟩ := List.mem_map.1 hy
  obtain ⟨L, R, rfl⟩ := List.append_of_mem hm
  have e := of_decide_eq_true e
  have hp : (L ++ m :: R).Pairwise (fun x y => lt x.nm y.nm = true) := List.pairwise_map.1 ((srt_pw _).1 h)
  rw [List.pairwise_append, List.pairwise_cons] at hp
  refine ⟨L, m, R, rfl, e, fun x hx => ?_, fun x hx => ?_⟩
  · rw [← e]
    exact hp.2.2 x hx m List.mem_cons_self
  · rw [← e]
    exact hp.2.1.1 x hx
theorem a_split_no {l : List Ac} {t : ByteArray} (h : srt (nas l) = true) (hh : has (nas l) t = false) : ∃ A B, l = A ++ B ∧ LoA A t ∧ HiA B t := by
  have hp : l.Pairwise (fun x y => lt x.nm y.nm = true) := List.pairwise_map.1 ((srt_pw _).1 h)
  clear h
  unfold has nas at hh
  rw [List.any_eq_false] at hh
  induction l with
  | nil => exact ⟨[], [], rfl, fun x hx => (by cases hx), fun x hx => (by cases hx)⟩
  | cons m ms ih =>
    rw [List.pairwise_cons] at hp
    cases k : lt m.nm t
    · have hne : m.nm ≠ t := by simpa using hh m.nm (by simp)
      have hlt : lt t m.nm = true := by
        cases k2 : lt t m.nm
        · exact absurd (lt_total k k2) hne
        · rfl
      refine ⟨[], m :: ms, rfl, fun x hx => (by cases hx), fun x hx => ?_⟩
      rcases List.mem_cons.1 hx with rfl | hx
      · exact hlt
      · exact lt_trans hlt (hp.1 x hx)
    · obtain ⟨L, R, rfl, h1, h2⟩ := ih (fun y hy => hh y (List.mem_cons_of_mem _ hy)) hp.2
      refine ⟨m :: L, R, rfl, fun x hx => ?_, h2⟩
      rcases List.mem_cons.1 hx with rfl | hx
      · exact k
      · exact h1 x hx
theorem loA_ne {A : List Ac} {t : ByteArray} (h : LoA A t) : ∀ x ∈ A, x.nm ≠ t := fun x hx e => by
  have := h x hx
  rw [e, lt_irrefl] at this
  cases this
theorem hiA_ne {A : List Ac} {t : ByteArray} (h : HiA A t) : ∀ x ∈ A, x.nm ≠ t := fun x hx e => by
  have := h x hx
  rw [e, lt_irrefl] at this
  cases this
theorem a_hasnot {A B : List Ac} {t : ByteArray} (h : ∀ x ∈ A ++ B, x.nm ≠ t) : has (nas (A ++ B)) t = false := by
  unfold has nas
  rw [List.any_eq_false]
  intro y hy
  obtain ⟨x, hx, rfl⟩ := List.mem_map.1 hy
  simpa using h x hx

/-! sums -/
theorem ex_from (l : List Ac) : ∀ s : Int, l.foldl (fun s a => s + ab a.us) s = s + ex l := by
  induction l with
  | nil => intro s; simp [ex]
  | cons x l ih =>
    intro s
    have h1 : ex (x :: l) = l.foldl (fun s a => s + ab a.us) (0 + ab x.us) := rfl
    rw [List.foldl_cons, ih, h1, ih]
    omega
theorem ex_cons (x : Ac) (l : List Ac) : ex (x :: l) = ab x.us + ex l := by
  have h1 : ex (x :: l) = l.foldl (fun s a => s + ab a.us) (0 + ab x.us) := rfl
  rw [h1, ex_from]
  omega
theorem ex_app (a b : List Ac) : ex (a ++ b) = ex a + ex b := by
  induction a with
  | nil => simp [ex]
  | cons x a ih => rw [List.cons_append, ex_cons, ex_cons, ih]; omega
theorem ex_mid (A B : List Ac) (a : Ac) : ex (A ++ a :: B) = ex A + ab a.us + ex B := by rw [ex_app, ex_cons]; omega
theorem ex_nonneg (l : List Ac) : 0 ≤ ex l := by
  induction l with
  | nil => simp [ex]
  | cons x l ih => rw [ex_cons]; have := ab_nonneg x.us; omega
/-- the sum of what is used -/
def uS (l : List Ac) : Int := l.foldl (fun s a => s + a.us) 0
theorem uS_snoc (l : List Ac) (x : Ac) : uS (l ++ [x]) = uS l + x.us := by unfold uS; rw [List.foldl_append]; rfl
theorem uS_from (l : List Ac) : ∀ s : Int, l.foldl (fun s a => s + a.us) s = s + uS l := by
  induction l with
  | nil => intro s; simp [uS]
  | cons x l ih =>
    intro s
    have h1 : uS (x :: l) = l.foldl (fun s a => s + a.us) (0 + x.us) := rfl
    rw [List.foldl_cons, ih, h1, ih]
    omega
theorem uS_cons (x : Ac) (l : List Ac) : uS (x :: l) = x.us + uS l := by
  have h1 : uS (x :: l) = l.foldl (fun s a => s + a.us) (0 + x.us) := rfl
  rw [h1, uS_from]
  omega
theorem uS_app (a b : List Ac) : uS (a ++ b) = uS a + uS b := by
  induction a with
  | nil => simp [uS]
  | cons x a ih => rw [List.cons_append, uS_cons, uS_cons, ih]; omega
theorem uS_mid (A B : List Ac) (a : Ac) : uS (A ++ a :: B) = uS A + a.us + uS B := by rw [uS_app, uS_cons]; omega
theorem uS_addU (l : List Ac) (i : Nat) (n : Int) (hi : i < l.length) : uS (addU l i n) = uS l + n := by
  obtain ⟨A, a, B, rfl, rfl⟩ : ∃ A a B, l = A ++ a :: B ∧ i = A.length := ⟨l.take i, l[i], l.drop (i + 1), by simp, by simp; omega⟩
  rw [addU_mid, uS_mid, uS_mid]
  dsimp only
  omega
theorem nas_addU (l : List Ac) (i : Nat) (n : Int) (hi : i < l.length) : nas (addU l i n) = nas l := by
  obtain ⟨A, a, B, rfl, rfl⟩ : ∃ A a B, l = A ++ a :: B ∧ i = A.length := ⟨l.take i, l[i], l.drop (i + 1), by simp, by simp; omega⟩
  rw [addU_mid]
  unfold nas
  simp
theorem addU_back (l : List Ac) (i : Nat) (n : Int) (hi : i < l.length) : addU (addU l i n) i (-n) = l := by
  obtain ⟨A, a, B, rfl, rfl⟩ : ∃ A a B, l = A ++ a :: B ∧ i = A.length := ⟨l.take i, l[i], l.drop (i + 1), by simp, by simp; omega⟩
  rw [addU_mid, addU_mid]
  obtain ⟨x, y, z, u⟩ := a
  have e : u + n + -n = u := by omega
  dsimp only
  rw [e]
theorem addU_swap (l : List Ac) (i j : Nat) (n k : Int) (hij : i ≠ j) : addU (addU l i n) j k = addU (addU l j k) i n := by
  have h1 : ga (addU l i n) j = ga l j := by
    unfold addU ga
    rw [List.getD_eq_getElem?_getD, List.getElem?_set_ne hij, ← List.getD_eq_getElem?_getD]
  have h2 : ga (addU l j k) i = ga l i := by
    unfold addU ga
    rw [List.getD_eq_getElem?_getD, List.getElem?_set_ne (Ne.symm hij), ← List.getD_eq_getElem?_getD]
  have e1 : addU (addU l i n) j k = (addU l i n).set j { ga l j with us := (ga l j).us + k } := by rw [← h1]; rfl
  have e2 : addU (addU l j k) i n = (addU l j k).set i { ga l i with us := (ga l i).us + n } := by rw [← h2]; rfl
  rw [e1, e2]
  unfold addU
  exact (List.set_comm _ _ hij)
theorem ga_addU_ne (l : List Ac) (i j : Nat) (n : Int) (hij : i ≠ j) : ga (addU l i n) j = ga l j := by
  unfold addU ga
  rw [List.getD_eq_getElem?_getD, List.getElem?_set_ne hij, ← List.getD_eq_getElem?_getD]
theorem ga_addU_eq (l : List Ac) (i : Nat) (n : Int) (hi : i < l.length) : (ga (addU l i n) i).us = (ga l i).us + n := by
  unfold addU
  have : ga (l.set i { ga l i with us := (ga l i).us + n }) i = { ga l i with us := (ga l i).us + n } := by
    unfold ga
    rw [List.getD_eq_getElem?_getD, List.getElem?_set_self hi]
    rfl
  rw [this]
theorem ex_addU (l : List Ac) (i : Nat) (n : Int) (hi : i < l.length) : ex (addU l i n) = ex l - ab (ga l i).us + ab ((ga l i).us + n) := by
  obtain ⟨A, a, B, rfl, rfl⟩ : ∃ A a B, l = A ++ a :: B ∧ i = A.length := ⟨l.take i, l[i], l.drop (i + 1), by simp, by simp; omega⟩
  rw [addU_mid, ex_mid, ex_mid, ga_mid]
  dsimp only
  omega
theorem pos_ne {l : List Ac} {t u : ByteArray} (hs : srt (nas l) = true) (ht : has (nas l) t = true) (hu : has (nas l) u = true) (hne : t ≠ u) : pos (nas l) t ≠ pos (nas l) u := fun e => by
  have h1 := (pos_has _ _ hs ht).2
  have h2 := (pos_has _ _ hs hu).2
  rw [e, h2] at h1
  exact hne h1.symm
theorem wac_self (m : Me) : ({ m with ac := m.ac } : Me) = m := rfl

/-! the changes -/
theorem open_ac {t : ByteArray} {cl : Bool} {lim : Int} {m : Me} (hv : val m = true) (h : (fOpen t cl lim m).2 = 0) : m.su = false ∧ ∃ A B, m.ac = A ++ B ∧ LoA A t ∧ HiA B t ∧ (fOpen t cl lim m).1 = { m with ac := A ++ ⟨t, cl, lim, 0⟩ :: B } := by
  unfold fOpen at h ⊢
  split at h
  case isTrue => cases h
  rename_i g1
  split at h
  case isTrue => cases h
  rename_i g2
  split at h
  case isTrue => cases h
  rename_i g3
  split at h
  case isTrue => cases h
  rename_i g4
  rw [if_neg g1, if_neg g2, if_neg g3, if_neg g4]
  obtain ⟨A, B, hl, hA, hB⟩ := a_split_no (val_parts hv).1 (by simpa using g3)
  refine ⟨by simpa using g1, A, B, hl, hA, hB, ?_⟩
  have hp : pos (nas m.ac) t = A.length := by rw [hl]; exact a_pos hA (by intro x hx; exact lt_asymm (hB x (List.mem_of_mem_head? hx)))
  rw [hp, hl]
  simp
theorem close_ac {t : ByteArray} {m : Me} (hv : val m = true) (h : (fClose t m).2 = 0) : ∃ A a B, m.ac = A ++ a :: B ∧ a.nm = t ∧ LoA A t ∧ a.us = 0 ∧ (fClose t m).1 = { m with ac := A ++ B } := by
  unfold fClose at h ⊢
  split at h
  case isFalse => cases h
  rename_i g1
  split at h
  case isFalse => cases h
  rename_i g2
  rw [if_pos g1, if_pos g2]
  obtain ⟨A, a, B, hl, ha, hA, hB⟩ := a_split (val_parts hv).1 g1
  have hp : pos (nas m.ac) t = A.length := by rw [hl]; exact a_pos_mid hA ha
  rw [hp, hl, ga_mid] at g2
  refine ⟨A, a, B, hl, ha, hA, g2, ?_⟩
  rw [hp, hl]
  have : (A ++ a :: B).drop (A.length + 1) = B := by rw [← List.drop_drop]; simp
  rw [this]
  simp
theorem use_ac {t : ByteArray} {n : Int} {m : Me} (h : (fUse t n m).2 = 0) : has (nas m.ac) t = true ∧ sig n = true ∧ (m.su = true → ab ((ga m.ac (pos (nas m.ac) t)).us + n) ≤ ab (ga m.ac (pos (nas m.ac) t)).us) ∧ (fUse t n m).1 = { m with ac := addU m.ac (pos (nas m.ac) t) n } := by
  unfold fUse at h ⊢
  split at h
  case isFalse => cases h
  rename_i g1
  split at h
  case isFalse => cases h
  rename_i g2
  split at h
  case isTrue => cases h
  rename_i g3
  rw [if_pos g1, if_pos g2, if_neg g3]
  refine ⟨g1, g2, fun hs => ?_, rfl⟩
  rw [hs, Bool.true_and, decide_eq_true_eq] at g3
  omega
theorem move_ac {fr tt : ByteArray} {n : Int} {m : Me} (h : (fMove fr tt n m).2 = 0) : has (nas m.ac) fr = true ∧ has (nas m.ac) tt = true ∧ fr ≠ tt ∧ sig n = true ∧ (m.su = true → ex (mvL m fr tt n) ≤ ex m.ac) ∧ (fMove fr tt n m).1 = { m with ac := mvL m fr tt n } := by
  unfold fMove at h ⊢
  split at h
  case isFalse => cases h
  rename_i g1
  split at h
  case isFalse => cases h
  rename_i g2
  split at h
  case isTrue => cases h
  rename_i g3
  rw [if_pos g1, if_pos g2, if_neg g3]
  simp only [Bool.and_eq_true, Bool.not_eq_true', decide_eq_false_iff_not] at g1 g2
  refine ⟨g1.1, g1.2, g2.1, g2.2, fun hs => ?_, rfl⟩
  rw [hs, Bool.true_and, decide_eq_true_eq] at g3
  omega
theorem open_close {t : ByteArray} {cl : Bool} {lim : Int} {m : Me} (hv : val m = true) (h : (fOpen t cl lim m).2 = 0) : fClose t (fOpen t cl lim m).1 = (m, 0) := by
  obtain ⟨_, A, B, hl, hA, hB, e⟩ := open_ac hv h
  rw [e]
  unfold fClose
  dsimp only
  rw [if_pos (a_has rfl), a_pos_mid hA rfl, ga_mid, if_pos rfl]
  have : (A ++ (⟨t, cl, lim, 0⟩ : Ac) :: B).drop (A.length + 1) = B := by rw [← List.drop_drop]; simp
  rw [this]
  have h2 : (A ++ (⟨t, cl, lim, 0⟩ : Ac) :: B).take A.length = A := by simp
  rw [h2, ← hl]
theorem sig_neg {n : Int} (h : sig n = true) : sig (-n) = true := by
  have := sig_b h
  unfold sig
  simp
  omega
theorem use_back {t : ByteArray} {n : Int} {m : Me} (hv : val m = true) (h : (fUse t n m).2 = 0) : fUse t (-n) (fUse t n m).1 = (m, 0) ∨ (m.su = true ∧ (fUse t (-n) (fUse t n m).1).2 = 20) := by
  obtain ⟨h1, h2, _, e⟩ := use_ac h
  have hp := has_pos hv h1
  rw [e]
  unfold fUse
  dsimp only
  rw [nas_addU _ _ _ hp, if_pos h1, if_pos (sig_neg h2)]
  split
  · rename_i g
    rw [Bool.and_eq_true] at g
    exact .inr ⟨g.1, rfl⟩
  · left
    rw [addU_back _ _ _ hp]
theorem move_back {fr tt : ByteArray} {n : Int} {m : Me} (hv : val m = true) (h : (fMove fr tt n m).2 = 0) : fMove fr tt (-n) (fMove fr tt n m).1 = (m, 0) ∨ (m.su = true ∧ (fMove fr tt (-n) (fMove fr tt n m).1).2 = 20) := by
  obtain ⟨h1, h2, h3, h4, _, e⟩ := move_ac h
  have hp := has_pos hv h1
  have hq := has_pos hv h2
  have hne := pos_ne (val_parts hv).1 h1 h2 h3
  have hn : nas (mvL m fr tt n) = nas m.ac := by unfold mvL; rw [nas_addU _ _ _ (by rw [addU_len]; exact hq), nas_addU _ _ _ hp]
  have hb : addU (addU (mvL m fr tt n) (pos (nas m.ac) fr) n) (pos (nas m.ac) tt) (-n) = m.ac := by
    unfold mvL
    rw [addU_swap (addU m.ac (pos (nas m.ac) fr) (-n)) (pos (nas m.ac) tt) (pos (nas m.ac) fr) n n (Ne.symm hne)]
    have h5 := addU_back m.ac (pos (nas m.ac) fr) (-n) hp
    rw [show - -n = n by omega] at h5
    rw [h5, addU_back _ _ _ hq]
  rw [e]
  unfold fMove
  dsimp only
  rw [hn, h1, h2, decide_eq_false h3, sig_neg h4]
  simp only [Bool.and_self, Bool.not_false, if_true]
  split
  · rename_i g
    rw [Bool.and_eq_true] at g
    exact .inr ⟨g.1, rfl⟩
  · left
    unfold mvL at hb ⊢
    dsimp only
    unfold mvL at hn
    rw [hn, show - -n = n by omega, hb]
end Go.Proofs.Ytoemjpfoddeinaa.Mb
