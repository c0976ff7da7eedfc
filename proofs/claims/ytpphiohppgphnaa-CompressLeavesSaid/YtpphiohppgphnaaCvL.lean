/-
  Compress, plain: what is left embeds in what was; trades that stay.
-/
import Derived.Test.YtpphiohppgphnaaCvF
namespace Go.Proofs.Ytpphiohppgphnaa.Cs
open Go.RowKit Go.Proofs.Ytpphiohppgphnaa Go.Proofs.Ytpphiohppgphnaa.Ls Go.Proofs.Ytpphiohppgphnaa.Kb Go.Proofs.Ytpphiohppgphnaa.Cz
open Go.Proofs.Ytpphiohppgphnaa.Nm hiding ret_bool ret_int hb'

/-- the same parties and contract, no more -/
def Less (x y : Tr) : Prop := y.fr = x.fr ∧ y.to_ = x.to_ ∧ y.con = x.con ∧ 1 ≤ y.amt ∧ y.amt ≤ x.amt
def Key (x y : Tr) : Prop := y.fr = x.fr ∧ y.to_ = x.to_ ∧ y.con = x.con
inductive Emb : List Tr → List Tr → Prop
  | nil : Emb [] []
  | drop (x : Tr) (l o : List Tr) (h : Emb l o) : Emb (x :: l) o
  | keep (x y : Tr) (l o : List Tr) (hk : Less x y) (h : Emb l o) : Emb (x :: l) (y :: o)
theorem emb_refl : ∀ l : List Tr, (∀ x ∈ l, 1 ≤ x.amt) → Emb l l := by
  intro l
  induction l with
  | nil => exact fun _ => .nil
  | cons x l ih => exact fun h => .keep _ _ _ _ ⟨rfl, rfl, rfl, h x (List.mem_cons_self ..), Int.le_refl _⟩ (ih fun y hy => h y (List.mem_cons_of_mem _ hy))
theorem emb_trans {a b : List Tr} (h : Emb a b) : ∀ {c : List Tr}, Emb b c → Emb a c := by
  induction h with
  | nil => exact fun k => k
  | drop x l o h ih => exact fun k => .drop _ _ _ (ih k)
  | keep x y l o hk h ih =>
    intro c k
    cases k with
    | drop _ _ _ k => exact .drop _ _ _ (ih k)
    | keep _ z _ _ hk2 k => exact .keep _ _ _ _ ⟨hk2.1.trans hk.1, hk2.2.1.trans hk.2.1, hk2.2.2.1.trans hk.2.2.1, hk2.2.2.2.1, Int.le_trans hk2.2.2.2.2 hk.2.2.2.2⟩ (ih k)
theorem emb_of : ∀ (a b : List Tr), a.length = b.length → (∀ i, i < a.length → Key (gt a i) (gt b i) ∧ (gt b i).amt ≤ (gt a i).amt) → Emb a (b.filter fun x => decide (0 < x.amt)) := by
  intro a
  induction a with
  | nil =>
    intro b hl _
    obtain rfl : b = [] := List.length_eq_zero_iff.1 hl.symm
    exact .nil
  | cons x a ih =>
    intro b hl h
    cases b with
    | nil => cases hl
    | cons y b =>
      have h0 := h 0 (by simp)
      have h0 : Key x y ∧ y.amt ≤ x.amt := h0
      have hr := ih b (by simpa using hl) (fun i hi => h (i + 1) (by simpa using hi))
      rw [List.filter_cons]
      split
      · rename_i e
        have e := of_decide_eq_true e
        exact .keep _ _ _ _ ⟨h0.1.1, h0.1.2.1, h0.1.2.2, by omega, h0.2⟩ hr
      · exact .drop _ _ _ hr
theorem torn_emb {l : List Tr} {cs : List Nat} (hv : vldB l = true) (hc : Cyc l cs) : Emb l (torn l cs) := by
  unfold torn
  refine emb_of _ _ (cut_len _ _ _ _).symm fun i hi => ?_
  obtain ⟨h1, h2, h3, h4⟩ := cut_key (l := l) (cs := cs) (lst l cs cs.length) cs.length i hi
  have := lst_range (l := l) (cs := cs) (fun j hj => (okT_at hv _ (hc.lt j hj)).2.2.2.2.1) cs.length (Nat.le_refl _)
  exact ⟨⟨h1, h2, h3⟩, by omega⟩
theorem cmp_emb {l out : List Tr} (h : Cmp l out) : vldB l = true → Emb l out := by
  induction h with
  | stop l h =>
    intro hv
    refine emb_refl l fun x hx => ?_
    obtain ⟨i, hi, rfl⟩ := mem_gt hx
    exact (okT_at hv i hi).2.2.2.2.1
  | go l x r out h k ih =>
    intro hv
    have hc := cyc_first hv h
    exact emb_trans (torn_emb hv hc) (ih (torn_vld hv hc))
theorem emb_key {l o : List Tr} (h : Emb l o) : ∀ y ∈ o, ∃ x ∈ l, Key x y := by
  induction h with
  | nil => intro y hy; cases hy
  | drop x l o h ih =>
    intro y hy
    obtain ⟨z, hz, k⟩ := ih y hy
    exact ⟨z, List.mem_cons_of_mem _ hz, k⟩
  | keep x y l o hk h ih =>
    intro z hz
    rcases List.mem_cons.1 hz with e | e
    · rw [e]
      exact ⟨x, List.mem_cons_self .., hk.1, hk.2.1, hk.2.2.1⟩
    · obtain ⟨w, hw, k⟩ := ih z e
      exact ⟨w, List.mem_cons_of_mem _ hw, k⟩
theorem emb_nil {o : List Tr} (h : Emb [] o) : o = [] := by cases h; rfl
theorem emb_step {x : Tr} {l o : List Tr} (h : Emb (x :: l) o) (hx : ∀ z ∈ l, ¬ Key z x) : (∃ y o', o = y :: o' ∧ Less x y ∧ Emb l o') ∨ ((∀ y o', o = y :: o' → ¬ Key x y) ∧ Emb l o) := by
  cases h with
  | drop _ _ _ h =>
    refine .inr ⟨fun y o' e k => ?_, h⟩
    subst e
    obtain ⟨z, hz, kz⟩ := emb_key h y (List.mem_cons_self ..)
    exact hx z hz ⟨k.1.symm.trans kz.1, k.2.1.symm.trans kz.2.1, k.2.2.symm.trans kz.2.2⟩
  | keep _ y _ o' hk h => exact .inl ⟨y, o', rfl, hk, h⟩
/-- valid trades have different keys -/
theorem vld_keys {l : List Tr} (hv : vldB l = true) {k : Nat} (hk : k < l.length) : ∀ z ∈ l.drop (k + 1), ¬ Key z (gt l k) := by
  intro z hz hkey
  obtain ⟨i, hi, rfl⟩ := List.mem_iff_getElem.1 hz
  rw [List.length_drop] at hi
  rw [List.getElem_drop, getElem_gt l _ (by omega)] at hkey
  have hp := List.pairwise_iff_getElem.1 ((vld_iff l).1 hv).2 k (k + 1 + i) hk (by omega) (by omega)
  rw [getElem_gt, getElem_gt, bef_keys (c := gt l (k + 1 + i)) (d := gt l (k + 1 + i)) hkey.1 hkey.2.1 hkey.2.2 rfl rfl rfl, bef_irrefl] at hp
  cases hp
theorem drop_gt (l : List Tr) (k : Nat) (hk : k < l.length) : l.drop k = gt l k :: l.drop (k + 1) := by
  rw [List.drop_eq_getElem_cons hk, getElem_gt]
/-- a trade that lies on no cycle -/
def Off (l : List Tr) (x : Tr) : Prop := (∀ y ∈ l, y.con = x.con → y.to_ ≠ x.fr) ∨ (∀ y ∈ l, y.con = x.con → y.fr ≠ x.to_)
theorem off_cs {l : List Tr} {cs : List Nat} (hc : Cyc l cs) {i : Nat} (_hi : i < l.length) (h : Off l (gt l i)) : i ∉ cs := by
  intro hm
  obtain ⟨j, hj, e⟩ := List.mem_iff_getElem.1 hm
  rw [← tn_at cs j hj] at e
  have h2 := hc.two
  have hcon : ∀ a b, a < cs.length → b < cs.length → (gt l (tn cs a)).con = (gt l (tn cs b)).con := fun a b ha hb => (hc.con a ha).trans (hc.con b hb).symm
  rcases h with h | h
  · rcases Nat.eq_zero_or_pos j with g | g
    · subst g
      refine h (gt l (tn cs (cs.length - 1))) (gt_mem l _ (hc.lt _ (by omega))) ?_ ?_
      · rw [← e]; exact hcon _ _ (by omega) hj
      · rw [← e]; exact hc.last
    · refine h (gt l (tn cs (j - 1))) (gt_mem l _ (hc.lt _ (by omega))) ?_ ?_
      · rw [← e]; exact hcon _ _ (by omega) hj
      · have := hc.next (j - 1) (by omega)
        rw [show j - 1 + 1 = j by omega] at this
        rw [← e]; exact this
  · by_cases g : j + 1 < cs.length
    · refine h (gt l (tn cs (j + 1))) (gt_mem l _ (hc.lt _ g)) ?_ ?_
      · rw [← e]; exact hcon _ _ g hj
      · rw [← e]; exact (hc.next j g).symm
    · have ej : j = cs.length - 1 := by omega
      refine h (gt l (tn cs 0)) (gt_mem l _ (hc.lt _ (by omega))) ?_ ?_
      · rw [← e]; exact hcon _ _ (by omega) hj
      · rw [← e, ej]; exact hc.last.symm
theorem cmp_stays {l out : List Tr} (h : Cmp l out) : vldB l = true → ∀ x ∈ l, Off l x → x ∈ out := by
  induction h with
  | stop l h => exact fun _ x hx _ => hx
  | go l x r out h k ih =>
    intro hv z hz ho
    have hc := cyc_first hv h
    obtain ⟨i, hi, rfl⟩ := mem_gt hz
    have hni := off_cs hc hi ho
    refine ih (torn_vld hv hc) _ ?_ ?_
    · unfold torn
      rw [List.mem_filter]
      have e : gt (cut l (x :: r) (lst l (x :: r) (x :: r).length) (x :: r).length) i = gt l i := by
        rw [cut_at l _ _ _ i hi, List.take_length, if_neg (by rw [List.contains_iff_mem]; exact hni)]
      refine ⟨?_, decide_eq_true (by have := (okT_at hv i hi).2.2.2.2.1; omega)⟩
      rw [← e]
      exact gt_mem _ i (by rw [cut_len]; exact hi)
    · rcases ho with ho | ho
      · refine .inl fun y hy hcy => ?_
        obtain ⟨j, hj, h1, h2, h3, _⟩ := torn_mem hv hc hy
        rw [h2]
        exact ho _ (gt_mem l j hj) (by rw [← h3]; exact hcy)
      · refine .inr fun y hy hcy => ?_
        obtain ⟨j, hj, h1, h2, h3, _⟩ := torn_mem hv hc hy
        rw [h1]
        exact ho _ (gt_mem l j hj) (by rw [← h3]; exact hcy)
end Go.Proofs.Ytpphiohppgphnaa.Cs
