/-
  Compress, plain: contracts are compressed independently of each other.
-/
import Derived.Test.YtpphiohppgphnaaCvL
namespace Go.Proofs.Ytpphiohppgphnaa.Cs
open Go.RowKit Go.Proofs.Ytpphiohppgphnaa Go.Proofs.Ytpphiohppgphnaa.Ls Go.Proofs.Ytpphiohppgphnaa.Kb Go.Proofs.Ytpphiohppgphnaa.Cz
open Go.Proofs.Ytpphiohppgphnaa.Nm hiding ret_bool ret_int hb'

section
variable {A B : List Tr} {c T : ByteArray}
theorem gt_left (i : Nat) (h : i < A.length) : gt (A ++ B) i = gt A i := by
  unfold gt
  rw [List.getD_eq_getElem?_getD, List.getD_eq_getElem?_getD, List.getElem?_append_left h]
theorem gt_right (j : Nat) : gt (A ++ B) (A.length + j) = gt B j := by
  unfold gt
  rw [List.getD_eq_getElem?_getD, List.getD_eq_getElem?_getD, List.getElem?_append_right (by omega), Nat.add_sub_cancel_left]
theorem out_left (hc : ∀ y ∈ B, y.con ≠ c) (p : ByteArray) (k : Nat) : Out (A ++ B) c p k ↔ Out A c p k := by
  constructor
  · rintro ⟨h1, h2, h3⟩
    rcases Nat.lt_or_ge k A.length with g | g
    · rw [gt_left k g] at h2 h3
      exact ⟨g, h2, h3⟩
    · obtain ⟨j, rfl⟩ : ∃ j, k = A.length + j := ⟨k - A.length, by omega⟩
      rw [gt_right] at h2
      rw [List.length_append] at h1
      exact absurd h2 (hc _ (gt_mem B j (by omega)))
  · rintro ⟨h1, h2, h3⟩
    exact ⟨by rw [List.length_append]; omega, by rw [gt_left k h1]; exact h2, by rw [gt_left k h1]; exact h3⟩
theorem rch_left (hc : ∀ y ∈ B, y.con ≠ c) (n : Nat) : ∀ p : ByteArray, Rch (A ++ B) c T n p ↔ Rch A c T n p := by
  induction n with
  | zero => exact fun p => Iff.rfl
  | succ n ih =>
    intro p
    constructor
    · rintro ⟨k, h1, h2⟩
      have h1 := (out_left hc p k).1 h1
      exact ⟨k, h1, (ih _).1 (by rw [gt_left k h1.1] at h2; exact h2)⟩
    · rintro ⟨k, h1, h2⟩
      exact ⟨k, (out_left hc p k).2 h1, (ih _).2 (by rw [gt_left k h1.1]; exact h2)⟩
theorem dist_left (hc : ∀ y ∈ B, y.con ≠ c) {p : ByteArray} {d : Nat} (h : Dist A c T p d) : Dist (A ++ B) c T p d := ⟨(rch_left hc d p).2 h.1, fun n hn => h.2 n ((rch_left hc n p).1 hn)⟩
theorem grd_left (hc : ∀ y ∈ B, y.con ≠ c) {p : ByteArray} {d : Nat} {tr : List Nat} (h : Grd A c T p d tr) : Grd (A ++ B) c T p d tr := by
  induction h with
  | nil => exact .nil
  | cons p d k tr ho hd hk h ih =>
    have e := gt_left (B := B) k ho.1
    refine .cons p d k tr ((out_left hc p k).2 ho) (by rw [e]; exact dist_left hc hd) (fun j hj ho2 hr => ?_) (by rw [e]; exact ih)
    have ho2 := (out_left hc p j).1 ho2
    rw [gt_left j ho2.1] at hr
    exact hk j hj ho2 ((rch_left hc d _).1 hr)
theorem out_right (hc : ∀ y ∈ A, y.con ≠ c) (p : ByteArray) (k : Nat) : Out (A ++ B) c p k ↔ ∃ j, k = A.length + j ∧ Out B c p j := by
  constructor
  · rintro ⟨h1, h2, h3⟩
    rcases Nat.lt_or_ge k A.length with g | g
    · rw [gt_left k g] at h2
      exact absurd h2 (hc _ (gt_mem A k g))
    · obtain ⟨j, rfl⟩ : ∃ j, k = A.length + j := ⟨k - A.length, by omega⟩
      rw [gt_right] at h2 h3
      rw [List.length_append] at h1
      exact ⟨j, rfl, by omega, h2, h3⟩
  · rintro ⟨j, rfl, h1, h2, h3⟩
    exact ⟨by rw [List.length_append]; omega, by rw [gt_right]; exact h2, by rw [gt_right]; exact h3⟩
theorem rch_right (hc : ∀ y ∈ A, y.con ≠ c) (n : Nat) : ∀ p : ByteArray, Rch (A ++ B) c T n p ↔ Rch B c T n p := by
  induction n with
  | zero => exact fun p => Iff.rfl
  | succ n ih =>
    intro p
    constructor
    · rintro ⟨k, h1, h2⟩
      obtain ⟨j, hj, h3⟩ := (out_right hc p k).1 h1
      subst hj
      exact ⟨j, h3, (ih _).1 (by rw [gt_right] at h2; exact h2)⟩
    · rintro ⟨k, h1, h2⟩
      exact ⟨A.length + k, (out_right hc p _).2 ⟨k, rfl, h1⟩, (ih _).2 (by rw [gt_right]; exact h2)⟩
theorem dist_right (hc : ∀ y ∈ A, y.con ≠ c) {p : ByteArray} {d : Nat} (h : Dist B c T p d) : Dist (A ++ B) c T p d := ⟨(rch_right hc d p).2 h.1, fun n hn => h.2 n ((rch_right hc n p).1 hn)⟩
theorem grd_right (hc : ∀ y ∈ A, y.con ≠ c) {p : ByteArray} {d : Nat} {tr : List Nat} (h : Grd B c T p d tr) : Grd (A ++ B) c T p d (tr.map (A.length + ·)) := by
  induction h with
  | nil => exact .nil
  | cons p d k tr ho hd hk h ih =>
    rw [List.map_cons]
    refine .cons p d (A.length + k) _ ((out_right hc p _).2 ⟨k, rfl, ho⟩) (by rw [gt_right]; exact dist_right hc hd) (fun j hj ho2 hr => ?_) (by rw [gt_right]; exact ih)
    obtain ⟨j', hj', ho3⟩ := (out_right hc p j).1 ho2
    subst hj'
    rw [gt_right] at hr
    exact hk j' (by omega) ho3 ((rch_right hc d _).1 hr)
end
/-- lists of different contracts -/
def Apart (A B : List Tr) : Prop := ∀ x ∈ A, ∀ y ∈ B, x.con ≠ y.con
section
variable {A B : List Tr}
theorem apart_l (h : Apart A B) (i : Nat) (hi : i < A.length) : ∀ y ∈ B, y.con ≠ (gt A i).con := fun y hy e => h _ (gt_mem A i hi) y hy e.symm
theorem apart_r (h : Apart A B) (i : Nat) (hi : i < B.length) : ∀ y ∈ A, y.con ≠ (gt B i).con := fun y hy => h y hy _ (gt_mem B i hi)
theorem first_left (h : Apart A B) {x : Nat} {r : List Nat} (hf : First A (x :: r)) : First (A ++ B) (x :: r) := by
  cases hf with
  | some i d tr hi hd hg hn =>
    have e := gt_left (B := B) x hi
    have hc := apart_l h x hi
    refine .some x d r (by rw [List.length_append]; omega) (by rw [e]; exact dist_left hc hd) (by rw [e]; exact grd_left hc hg) (fun j hj n hr => ?_)
    rw [gt_left j (by omega)] at hr
    exact hn j hj n ((rch_left (apart_l h j (by omega)) n _).1 hr)
theorem none_left (h : Apart A B) (hf : First A []) (j : Nat) (hj : j < A.length) (n : Nat) : ¬ Rch (A ++ B) (gt (A ++ B) j).con (gt (A ++ B) j).fr n (gt (A ++ B) j).to_ := fun hr => by
  rw [gt_left j hj] at hr
  exact first_nil hf j hj n ((rch_left (apart_l h j hj) n _).1 hr)
theorem first_right (h : Apart A B) (hf : First A []) {r : List Nat} (hb : First B r) : First (A ++ B) (r.map (A.length + ·)) := by
  cases hb with
  | none hn =>
    refine .none fun j hj n => ?_
    rw [List.length_append] at hj
    rcases Nat.lt_or_ge j A.length with g | g
    · exact none_left h hf j g n
    · obtain ⟨k, rfl⟩ : ∃ k, j = A.length + k := ⟨j - A.length, by omega⟩
      rw [gt_right]
      exact fun hr => hn k (by omega) n ((rch_right (apart_r h k (by omega)) n _).1 hr)
  | some i d tr hi hd hg hn =>
    have hc := apart_r h i hi
    rw [List.map_cons]
    refine .some (A.length + i) d _ (by rw [List.length_append]; omega) (by rw [gt_right]; exact dist_right hc hd) (by rw [gt_right]; exact grd_right hc hg) (fun j hj n => ?_)
    rcases Nat.lt_or_ge j A.length with g | g
    · exact none_left h hf j g n
    · obtain ⟨k, rfl⟩ : ∃ k, j = A.length + k := ⟨j - A.length, by omega⟩
      rw [gt_right]
      exact fun hr => hn k (by omega) n ((rch_right (apart_r h k (by omega)) n _).1 hr)
theorem lst_congr {l l' : List Tr} {cs cs' : List Nat} (hl : cs.length = cs'.length) (h : ∀ j, j < cs.length → (gt l (tn cs j)).amt = (gt l' (tn cs' j)).amt) : ∀ k, k ≤ cs.length → lst l cs k = lst l' cs' k := by
  intro k
  induction k with
  | zero => intro _; rfl
  | succ k ih =>
    intro hk
    rw [lst_succ l cs k (by omega), lst_succ l' cs' k (by omega), ih (by omega), h k (by omega)]
theorem filter_pos {l : List Tr} (h : ∀ x ∈ l, 1 ≤ x.amt) : l.filter (fun x => decide (0 < x.amt)) = l := by
  rw [List.filter_eq_self]
  intro x hx
  have := h x hx
  exact decide_eq_true (by omega)
theorem torn_left {cs : List Nat} (hc : ∀ i ∈ cs, i < A.length) (hB : ∀ x ∈ B, 1 ≤ x.amt) : torn (A ++ B) cs = torn A cs ++ B := by
  have hl : lst (A ++ B) cs cs.length = lst A cs cs.length := lst_congr rfl (fun j hj => by rw [gt_left _ (hc _ (by rw [tn_at cs j hj]; exact List.getElem_mem _))]) _ (Nat.le_refl _)
  unfold torn
  rw [hl]
  have e : cut (A ++ B) cs (lst A cs cs.length) cs.length = cut A cs (lst A cs cs.length) cs.length ++ B := by
    refine ext_gt (by rw [cut_len, List.length_append, List.length_append, cut_len]) fun i hi => ?_
    rw [cut_len, List.length_append] at hi
    rw [cut_at _ cs _ _ i (by rw [List.length_append]; exact hi)]
    rcases Nat.lt_or_ge i A.length with g | g
    · rw [gt_left (A := cut A cs (lst A cs cs.length) cs.length) i (by rw [cut_len]; exact g), cut_at A cs _ _ i g, gt_left i g]
    · obtain ⟨k, rfl⟩ : ∃ k, i = A.length + k := ⟨i - A.length, by omega⟩
      have e2 := gt_right (A := cut A cs (lst A cs cs.length) cs.length) (B := B) k
      rw [cut_len] at e2
      rw [e2, if_neg (fun hm => by rw [List.take_length, List.contains_iff_mem] at hm; have := hc _ hm; omega), gt_right]
  rw [e, List.filter_append, filter_pos hB]
theorem tn_map (r : List Nat) (j n : Nat) (hj : j < r.length) : tn (r.map (n + ·)) j = n + tn r j := by
  rw [tn_at _ j (by rw [List.length_map]; exact hj), tn_at r j hj, List.getElem_map]
theorem torn_right {cs : List Nat} (hA : ∀ x ∈ A, 1 ≤ x.amt) : torn (A ++ B) (cs.map (A.length + ·)) = A ++ torn B cs := by
  have hl : lst (A ++ B) (cs.map (A.length + ·)) (cs.map (A.length + ·)).length = lst B cs cs.length := by
    have := lst_congr (l := A ++ B) (l' := B) (cs := cs.map (A.length + ·)) (cs' := cs) (List.length_map ..) (fun j hj => by rw [List.length_map] at hj; rw [tn_map cs j _ hj, gt_right]) _ (Nat.le_refl _)
    rw [this, List.length_map]
  unfold torn
  rw [hl]
  have e : cut (A ++ B) (cs.map (A.length + ·)) (lst B cs cs.length) (cs.map (A.length + ·)).length = A ++ cut B cs (lst B cs cs.length) cs.length := by
    refine ext_gt (by rw [cut_len, List.length_append, List.length_append, cut_len]) fun i hi => ?_
    rw [cut_len, List.length_append] at hi
    rw [cut_at _ _ _ _ i (by rw [List.length_append]; exact hi), List.take_length]
    rcases Nat.lt_or_ge i A.length with g | g
    · rw [gt_left i g, gt_left i g, if_neg (fun hm => by rw [List.contains_iff_mem, List.mem_map] at hm; obtain ⟨k, _, hk⟩ := hm; omega)]
    · obtain ⟨k, rfl⟩ : ∃ k, i = A.length + k := ⟨i - A.length, by omega⟩
      rw [gt_right, gt_right, cut_at B cs _ _ k (by omega), List.take_length]
      have e3 : (cs.map (A.length + ·)).contains (A.length + k) = cs.contains k := by
        rw [Bool.eq_iff_iff, List.contains_iff_mem, List.contains_iff_mem, List.mem_map]
        exact ⟨fun ⟨j, hj, e⟩ => by rw [show k = j by omega]; exact hj, fun h => ⟨k, h, rfl⟩⟩
      rw [e3]
  rw [e, List.filter_append, filter_pos hA]
end
theorem vld_pos {l : List Tr} (hv : vldB l = true) : ∀ x ∈ l, 1 ≤ x.amt := fun x hx => by
  obtain ⟨i, hi, rfl⟩ := mem_gt hx
  exact (okT_at hv i hi).2.2.2.2.1
theorem cyc_lt {l : List Tr} {cs : List Nat} (hc : Cyc l cs) : ∀ i ∈ cs, i < l.length := fun i hi => by
  obtain ⟨j, hj, e⟩ := List.mem_iff_getElem.1 hi
  rw [← e, ← tn_at cs j hj]
  exact hc.lt j hj
theorem cmp_right {A B ob : List Tr} (hf : First A []) (hA : vldB A = true) (h : Cmp B ob) : vldB B = true → Apart A B → Cmp (A ++ B) (A ++ ob) := by
  induction h with
  | stop B h => exact fun _ hap => .stop _ (first_right hap hf h)
  | go B x r out h k ih =>
    intro hB hap
    have hc := cyc_first hB h
    have h1 := first_right hap hf h
    refine .go _ _ _ _ h1 ?_
    have := torn_right (A := A) (B := B) (cs := x :: r) (vld_pos hA)
    rw [List.map_cons] at this
    rw [this]
    exact ih (torn_vld hB hc) (fun x hx y hy => by
      obtain ⟨j, hj, _, _, h3, _⟩ := torn_mem hB hc hy
      rw [h3]
      exact hap x hx _ (gt_mem B j hj))
/-- **contracts are compressed independently of each other** -/
theorem cmp_append {A B oa ob : List Tr} (h : Cmp A oa) : vldB A = true → vldB B = true → Apart A B → Cmp B ob → Cmp (A ++ B) (oa ++ ob) := by
  induction h with
  | stop A h => exact fun hA hB hap k => cmp_right h hA k hB hap
  | go A x r out h k ih =>
    intro hA hB hap kb
    have hc := cyc_first hA h
    refine .go _ _ _ _ (first_left hap h) ?_
    rw [torn_left (cyc_lt hc) (vld_pos hB)]
    exact ih (torn_vld hA hc) hB (fun x hx y hy => by
      obtain ⟨j, hj, _, _, h3, _⟩ := torn_mem hA hc hx
      rw [h3]
      exact hap _ (gt_mem A j hj) y hy) kb
theorem cmp_uniq {l a : List Tr} (h : Cmp l a) : ∀ {b : List Tr}, Cmp l b → a = b := by
  induction h with
  | stop l h =>
    intro b k
    rcases cmp_cases k with ⟨_, e⟩ | ⟨x, r, h1, _⟩
    · exact e
    · exact absurd (h.uniq h1) (by simp)
  | go l x r out h k ih =>
    intro b kb
    rcases cmp_cases kb with ⟨h1, _⟩ | ⟨x', r', h1, k'⟩
    · exact absurd (h.uniq h1) (by simp)
    · refine ih ?_
      rw [h.uniq h1]
      exact k'
end Go.Proofs.Ytpphiohppgphnaa.Cs
