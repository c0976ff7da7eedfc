/-
  Compress, plain: tearing keeps trades valid and takes at least one away; trades compressed.
-/
import Derived.Test.YtpphiohppgphnaaCs8
namespace Go.Proofs.Ytpphiohppgphnaa.Cs
open Go.RowKit Go.Proofs.Ytpphiohppgphnaa Go.Proofs.Ytpphiohppgphnaa.Ls Go.Proofs.Ytpphiohppgphnaa.Kb Go.Proofs.Ytpphiohppgphnaa.Cz
open Go.Proofs.Ytpphiohppgphnaa.Nm hiding ret_bool ret_int hb'

theorem getElem_gt (l : List Tr) (i : Nat) (h : i < l.length) : l[i] = gt l i := (gt_at l i h).symm
theorem mem_gt {l : List Tr} {x : Tr} (h : x ∈ l) : ∃ i, i < l.length ∧ x = gt l i := by
  obtain ⟨i, hi, e⟩ := List.mem_iff_getElem.1 h
  exact ⟨i, hi, by rw [← e, getElem_gt]⟩
theorem okT_iff (x : Tr) : okT x = true ↔ nm x.fr = true ∧ nm x.to_ = true ∧ nm x.con = true ∧ x.fr ≠ x.to_ ∧ 1 ≤ x.amt ∧ x.amt ≤ 1125899906842624 := by
  unfold okT
  simp only [Bool.and_eq_true, Bool.not_eq_true', decide_eq_false_iff_not]
  constructor
  · rintro ⟨⟨⟨⟨⟨h1, h2⟩, h3⟩, h4⟩, h5⟩, h6⟩
    exact ⟨h1, h2, h3, fun e => by rw [e] at h4; simp at h4, by omega, by omega⟩
  · rintro ⟨h1, h2, h3, h4, h5, h6⟩
    exact ⟨⟨⟨⟨⟨h1, h2⟩, h3⟩, eq_no h4⟩, by omega⟩, by omega⟩
/-- trades that are valid -/
def Vld (l : List Tr) : Prop := (∀ x ∈ l, okT x = true) ∧ l.Pairwise fun a b => bef a b = true
theorem vld_iff (l : List Tr) : vldB l = true ↔ Vld l := by
  constructor
  · intro h
    have hel : ∀ i, i < l.length → okT (gt l i) = true ∧ (0 < i → bef (gt l (i - 1)) (gt l i) = true) := fun i hi => by
      have := allB_at h i hi
      unfold elT at this
      simp only [Bool.and_eq_true, Bool.or_eq_true, Bool.not_eq_true', decide_eq_false_iff_not] at this
      exact ⟨this.1, fun g => this.2.resolve_left (by omega)⟩
    refine ⟨fun x hx => ?_, List.pairwise_iff_getElem.2 fun i j hi hj hij => ?_⟩
    · obtain ⟨i, hi, rfl⟩ := mem_gt hx
      exact (hel i hi).1
    · rw [getElem_gt, getElem_gt]
      clear hi
      induction j with
      | zero => omega
      | succ j ih =>
        have h1 := (hel (j + 1) hj).2 (by omega)
        rcases Nat.eq_or_lt_of_le (show i ≤ j by omega) with g | g
        · subst g; exact h1
        · exact bef_trans (ih (by omega) g) h1
  · rintro ⟨h1, h2⟩
    refine allB_yes fun i hi => ?_
    unfold elT
    rw [h1 _ (gt_mem l i hi), Bool.true_and, Bool.or_eq_true, Bool.not_eq_true', decide_eq_false_iff_not]
    rcases Nat.eq_zero_or_pos i with g | g
    · exact .inl (by omega)
    · refine .inr ?_
      have := List.pairwise_iff_getElem.1 h2 (i - 1) i (by omega) hi (by omega)
      rwa [getElem_gt, getElem_gt] at this
theorem cyc_first {l : List Tr} {x : Nat} {r : List Nat} (hv : vldB l = true) (h : First l (x :: r)) : Cyc l (x :: r) := by
  cases h with
  | some i d tr hi hd hg h => exact cyc_of hi (okT_at hv _ hi).2.2.2.1 hd hg
theorem bef_keys {a b c d : Tr} (h1 : a.fr = c.fr) (h2 : a.to_ = c.to_) (h3 : a.con = c.con) (k1 : b.fr = d.fr) (k2 : b.to_ = d.to_) (k3 : b.con = d.con) : bef a b = bef c d := by
  unfold bef
  rw [h1, h2, h3, k1, k2, k3]
section
variable {l : List Tr} {cs : List Nat}
theorem lst_le (k : Nat) (hk : k ≤ cs.length) : ∀ j, j < k → lst l cs k ≤ (gt l (tn cs j)).amt := by
  induction k with
  | zero => intro j hj; omega
  | succ k ih =>
    intro j hj
    rw [lst_succ l cs k (by omega)]
    rcases Nat.eq_or_lt_of_le (show j ≤ k by omega) with g | g
    · subst g; omega
    · have := ih (by omega) j g; omega
theorem lst_is (hm : ∀ j, j < cs.length → (gt l (tn cs j)).amt ≤ 1125899906842624) (k : Nat) (hk : k < cs.length) : ∃ j, j ≤ k ∧ lst l cs (k + 1) = (gt l (tn cs j)).amt := by
  induction k with
  | zero =>
    refine ⟨0, Nat.le_refl _, ?_⟩
    have := hm 0 hk
    rw [lst_succ l cs 0 hk, show lst l cs 0 = 1125899906842624 from rfl]
    omega
  | succ k ih =>
    obtain ⟨j, hj, e⟩ := ih (by omega)
    rw [lst_succ l cs (k + 1) hk, e]
    rcases Int.le_total (gt l (tn cs j)).amt (gt l (tn cs (k + 1))).amt with g | g
    · exact ⟨j, by omega, by omega⟩
    · exact ⟨k + 1, Nat.le_refl _, by omega⟩
/-- tearing: the trades one by one -/
theorem cut_key (m : Int) (k i : Nat) (hi : i < l.length) : (gt (cut l cs m k) i).fr = (gt l i).fr ∧ (gt (cut l cs m k) i).to_ = (gt l i).to_ ∧ (gt (cut l cs m k) i).con = (gt l i).con ∧ ((gt (cut l cs m k) i).amt = (gt l i).amt ∨ (gt (cut l cs m k) i).amt = (gt l i).amt - m) := by
  rw [cut_at l cs m k i hi]
  split
  · exact ⟨rfl, rfl, rfl, .inr rfl⟩
  · exact ⟨rfl, rfl, rfl, .inl rfl⟩
theorem torn_mem (hv : vldB l = true) (hc : Cyc l cs) {x : Tr} (h : x ∈ torn l cs) : ∃ i, i < l.length ∧ x.fr = (gt l i).fr ∧ x.to_ = (gt l i).to_ ∧ x.con = (gt l i).con ∧ 1 ≤ x.amt ∧ x.amt ≤ (gt l i).amt := by
  unfold torn at h
  rw [List.mem_filter, decide_eq_true_iff] at h
  obtain ⟨i, hi, rfl⟩ := mem_gt h.1
  rw [cut_len] at hi
  obtain ⟨h1, h2, h3, h4⟩ := cut_key (l := l) (cs := cs) (lst l cs cs.length) cs.length i hi
  have := lst_range (l := l) (cs := cs) (fun j hj => (okT_at hv _ (hc.lt j hj)).2.2.2.2.1) cs.length (Nat.le_refl _)
  have := h.2
  exact ⟨i, hi, h1, h2, h3, by omega, by omega⟩
theorem torn_vld (hv : vldB l = true) (hc : Cyc l cs) : vldB (torn l cs) = true := by
  rw [vld_iff]
  refine ⟨fun x hx => ?_, ?_⟩
  · obtain ⟨i, hi, h1, h2, h3, h4, h5⟩ := torn_mem hv hc hx
    have := okT_at hv i hi
    rw [okT_iff, h1, h2, h3]
    exact ⟨this.1, this.2.1, this.2.2.1, this.2.2.2.1, h4, by omega⟩
  · unfold torn
    refine List.Pairwise.filter _ (List.pairwise_iff_getElem.2 fun i j hi hj hij => ?_)
    rw [getElem_gt, getElem_gt]
    rw [cut_len] at hi hj
    obtain ⟨h1, h2, h3, _⟩ := cut_key (l := l) (cs := cs) (lst l cs cs.length) cs.length i hi
    obtain ⟨k1, k2, k3, _⟩ := cut_key (l := l) (cs := cs) (lst l cs cs.length) cs.length j hj
    rw [bef_keys h1 h2 h3 k1 k2 k3]
    have := List.pairwise_iff_getElem.1 ((vld_iff l).1 hv).2 i j hi hj hij
    rwa [getElem_gt, getElem_gt] at this
theorem torn_less (hv : vldB l = true) (hc : Cyc l cs) : (torn l cs).length < l.length := by
  have h2 := hc.two
  obtain ⟨j, hj, e⟩ := lst_is (l := l) (cs := cs) (fun j hj => (okT_at hv _ (hc.lt j hj)).2.2.2.2.2) (cs.length - 1) (by omega)
  rw [show cs.length - 1 + 1 = cs.length by omega] at e
  unfold torn
  refine Nat.lt_of_lt_of_eq (List.length_filter_lt_length_iff_exists.2 ⟨gt (cut l cs (lst l cs cs.length) cs.length) (tn cs j), gt_mem _ _ (by rw [cut_len]; exact hc.lt j (by omega)), ?_⟩) (cut_len _ _ _ _)
  rw [cut_at l cs _ _ _ (hc.lt j (by omega)), List.take_length, if_pos (by rw [List.contains_iff_mem, tn_at cs j (by omega)]; exact List.getElem_mem _)]
  unfold tear
  rw [e]
  simp
end
/-- trades compressed -/
inductive Cmp : List Tr → List Tr → Prop
  | stop (l : List Tr) (h : First l []) : Cmp l l
  | go (l : List Tr) (x : Nat) (r : List Nat) (out : List Tr) (h : First l (x :: r)) (k : Cmp (torn l (x :: r)) out) : Cmp l out
theorem cmp_exists (n : Nat) : ∀ l : List Tr, l.length ≤ n → vldB l = true → ∃ out, Cmp l out := by
  induction n with
  | zero =>
    intro l hl _
    obtain ⟨r, hr⟩ := first_exists l
    cases r with
    | nil => exact ⟨_, .stop l hr⟩
    | cons x r =>
      cases hr with
      | some i d tr hi => omega
  | succ n ih =>
    intro l hl hv
    obtain ⟨r, hr⟩ := first_exists l
    cases r with
    | nil => exact ⟨_, .stop l hr⟩
    | cons x r =>
      have hc := cyc_first hv hr
      obtain ⟨out, ho⟩ := ih (torn l (x :: r)) (by have := torn_less hv hc; omega) (torn_vld hv hc)
      exact ⟨out, .go l x r out hr ho⟩
/-- what Compress returns -/
inductive ComR (l : List Tr) : List Tr → Int → Prop
  | bad (h : chkE l ≠ 0) : ComR l [] (chkE l)
  | ok (h : chkE l = 0) (out : List Tr) (k : Cmp l out) : ComR l out 0
theorem comR_exists (l : List Tr) : ∃ out e, ComR l out e := by
  rcases chk_cases l with ⟨h0, hv, _⟩ | h | h
  · obtain ⟨out, ho⟩ := cmp_exists l.length l (Nat.le_refl _) hv
    exact ⟨out, 0, .ok h0 out ho⟩
  · exact ⟨_, _, .bad (by rw [h]; decide)⟩
  · exact ⟨_, _, .bad (by rw [h]; decide)⟩
theorem szT_torn {l : List Tr} {cs : List Nat} (hZ : SzT l) (hv : vldB l = true) (hc : Cyc l cs) : SzT (torn l cs) := fun i => by
  rcases Nat.lt_or_ge i (torn l cs).length with g | g
  · obtain ⟨j, _, h1, h2, h3, _⟩ := torn_mem hv hc (gt_mem _ i g)
    rw [h1, h2, h3]
    exact hZ j
  · unfold gt
    rw [List.getD_eq_getElem?_getD, List.getElem?_eq_none g]
    exact ⟨by decide, by decide, by decide⟩
theorem pigeon (n : Nat) : ∀ cs : List Nat, cs.Nodup → (∀ x ∈ cs, x < n) → cs.length ≤ n := by
  induction n with
  | zero =>
    intro cs _ h
    cases cs with
    | nil => exact Nat.le_refl _
    | cons x r => exact absurd (h x (by simp)) (by omega)
  | succ n ih =>
    intro cs hn h
    by_cases g : n ∈ cs
    · have h1 := ih (cs.erase n) (hn.erase n) (fun x hx => by
        have h2 := h x (List.mem_of_mem_erase hx)
        have h3 : x ≠ n := fun e => by
          subst e
          exact (List.Nodup.not_mem_erase hn) hx
        omega)
      rw [List.length_erase_of_mem g] at h1
      omega
    · have h1 := ih cs hn (fun x hx => by
        have h2 := h x hx
        have h3 : x ≠ n := fun e => g (e ▸ hx)
        omega)
      omega
theorem cyc_len {l : List Tr} {cs : List Nat} (h : Cyc l cs) : cs.length ≤ l.length := pigeon _ _ h.nodup fun x hx => by
  obtain ⟨j, hj, e⟩ := List.mem_iff_getElem.1 hx
  rw [← e, ← tn_at cs j hj]
  exact h.lt j hj
end Go.Proofs.Ytpphiohppgphnaa.Cs
