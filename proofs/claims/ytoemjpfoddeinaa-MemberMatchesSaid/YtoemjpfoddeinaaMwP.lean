/-
  Member: what a call leaves, plainly.
-/
import Derived.Test.YtoemjpfoddeinaaMbT
namespace Go.Proofs.Ytoemjpfoddeinaa.Mb
open Go.RowKit Go.Proofs.Ytoemjpfoddeinaa Go.Proofs.Ytoemjpfoddeinaa.Ls Go.Proofs.Ytoemjpfoddeinaa.Kb
open Go.Proofs.Ytoemjpfoddeinaa.Nm hiding ret_bool ret_int

theorem nm_size {s : ByteArray} (h : nm s = true) : s.size ≤ 40 := by
  unfold nm nameL at h
  simp only [Bool.and_eq_true, decide_eq_true_eq] at h
  have := h.1.1.2
  rw [Array.length_toList] at this
  exact this
theorem val_nm {m : Me} (h : val m = true) : nm m.nm = true := by
  unfold val at h
  simp only [Bool.and_eq_true] at h
  exact h.1.1.1.1.1.1.1
theorem val_ro {m : Me} (h : val m = true) : m.ro = 1 ∨ m.ro = 2 := by
  unfold val at h
  simp only [Bool.and_eq_true, Bool.or_eq_true, beq_iff_eq] at h
  exact h.1.1.1.1.1.2
theorem val_mon {m : Me} (h : val m = true) : mon m.lim = true := by
  unfold val at h
  simp only [Bool.and_eq_true] at h
  exact h.1.1.1.1.2
theorem val_ex {m : Me} (h : val m = true) : ex m.ac ≤ m.lim := by
  unfold val at h
  simp only [Bool.and_eq_true, decide_eq_true_eq] at h
  exact h.2
theorem okA_nm {ro : Int} {a : Ac} (h : okA ro a = true) : nm a.nm = true := by
  unfold okA at h
  simp only [Bool.and_eq_true] at h
  exact h.1.1.1.1
theorem maxLen_ge : 1000 ≤ maxLen := by decide
theorem val_ok {m : Me} (h : val m = true) : OkM m := by
  have h1 := val_parts h
  have h2 := maxLen_ge
  refine ⟨by have := nm_size (val_nm h); omega, by rcases val_ro h with e | e <;> omega, mon_i64 (val_mon h), by omega, fun a ha => ?_⟩
  have h3 := okA_bound (h1.2.2 a ha)
  refine ⟨by have := nm_size (okA_nm (h1.2.2 a ha)); omega, ?_, ?_⟩ <;> unfold i64 <;> omega

theorem gs_get {l : List ByteArray} {i : Nat} (h : i < l.length) : gs l i = l[i] := by unfold gs; rw [List.getD_eq_getElem?_getD, List.getElem?_eq_getElem h]; rfl
theorem srt_pw (l : List ByteArray) : srt l = true ↔ l.Pairwise (fun x y => lt x y = true) := by
  rw [srt_iff, List.pairwise_iff_getElem]
  constructor
  · intro h i j hi hj hij
    rw [← gs_get hi, ← gs_get hj]
    exact h.lt i j hij hj
  · intro h i h0 hi
    rw [gs_get hi, gs_get (show i - 1 < l.length by omega)]
    exact h (i - 1) i (by omega) hi (by omega)
theorem chk_iff (ms : List Me) : chk ms = 0 ↔ ms.length ≤ 64 ∧ ms.Pairwise (fun x y => lt x.nm y.nm = true) ∧ ∀ m ∈ ms, val m = true := by
  have h : srt (nms ms) = true ↔ ms.Pairwise (fun x y => lt x.nm y.nm = true) := by rw [srt_pw]; exact List.pairwise_map
  constructor
  · intro k
    have := chk_srt k
    exact ⟨this.1, h.1 this.2.1, this.2.2⟩
  · rintro ⟨h1, h2, h3⟩
    unfold chk
    rw [if_pos]
    rw [Bool.and_eq_true, Bool.and_eq_true]
    exact ⟨⟨decide_eq_true h1, h.2 h2⟩, List.all_eq_true.2 h3⟩
theorem chk_okms {ms : List Me} (h : chk ms = 0) : OkMs ms := fun m hm => val_ok (((chk_iff ms).1 h).2.2 m hm)

/-- the members ahead of a name and behind it -/
def Lo (L : List Me) (t : ByteArray) : Prop := ∀ x ∈ L, lt x.nm t = true
def Hi (R : List Me) (t : ByteArray) : Prop := ∀ x ∈ R, lt t x.nm = true
theorem pos_lo {L R : List Me} {t : ByteArray} (hL : Lo L t) (hR : ∀ x ∈ R.head?, lt x.nm t = false) : pos (nms (L ++ R)) t = L.length := by
  unfold pos nms
  induction L with
  | nil =>
    cases R with
    | nil => rfl
    | cons x R =>
      have := hR x rfl
      simp [this]
  | cons x L ih =>
    have h1 := hL x (List.mem_cons_self)
    have h2 := ih (fun y hy => hL y (List.mem_cons_of_mem _ hy))
    simp only [List.cons_append, List.map_cons, List.takeWhile_cons, h1, if_true, List.length_cons]
    rw [h2]
theorem has_mid {L R : List Me} {m : Me} {t : ByteArray} (hm : m.nm = t) : has (nms (L ++ m :: R)) t = true := by
  unfold has nms
  simp [hm]
theorem pos_mid {L R : List Me} {m : Me} {t : ByteArray} (hL : Lo L t) (hm : m.nm = t) : pos (nms (L ++ m :: R)) t = L.length := pos_lo hL (by intro x hx; cases hx; rw [hm]; exact lt_irrefl _)
theorem has_not {L R : List Me} {t : ByteArray} (hL : Lo L t) (hR : Hi R t) : has (nms (L ++ R)) t = false := by
  unfold has nms
  rw [List.any_eq_false]
  intro y hy
  obtain ⟨x, hx, rfl⟩ := List.mem_map.1 hy
  rcases List.mem_append.1 hx with h | h
  · have := hL x h
    simp only [decide_eq_true_eq]
    intro e
    rw [e, lt_irrefl] at this
    cases this
  · have := hR x h
    simp only [decide_eq_true_eq]
    intro e
    rw [e, lt_irrefl] at this
    cases this
theorem gm_mid (L R : List Me) (m : Me) : gm (L ++ m :: R) L.length = m := by
  unfold gm
  rw [List.getD_eq_getElem?_getD, List.getElem?_append_right (Nat.le_refl _), Nat.sub_self]
  rfl
theorem set_mid (L R : List Me) (m m' : Me) : (L ++ m :: R).set L.length m' = L ++ m' :: R := by simp
theorem del_mid (L R : List Me) (m : Me) : (L ++ m :: R).take L.length ++ (L ++ m :: R).drop (L.length + 1) = L ++ R := by
  have h : (L ++ m :: R).drop (L.length + 1) = R := by rw [← List.drop_drop]; simp
  rw [h]
  simp
theorem ins_mid (L R : List Me) (m : Me) : (L ++ R).take L.length ++ m :: (L ++ R).drop L.length = L ++ m :: R := by simp
/-- a valid state about a name -/
theorem split_has {ms : List Me} {t : ByteArray} (h : chk ms = 0) (hh : has (nms ms) t = true) : ∃ L m R, ms = L ++ m :: R ∧ m.nm = t ∧ Lo L t ∧ Hi R t := by
  unfold has nms at hh
  rw [List.any_eq_true] at hh
  obtain ⟨y, hy, e⟩ := hh
  obtain ⟨m, hm, rfl⟩ := List.mem_map.1 hy
  obtain ⟨L, R, rfl⟩ := List.append_of_mem hm
  have e := of_decide_eq_true e
  have hp := ((chk_iff _).1 h).2.1
  rw [List.pairwise_append, List.pairwise_cons] at hp
  refine ⟨L, m, R, rfl, e, fun x hx => ?_, fun x hx => ?_⟩
  · rw [← e]
    exact hp.2.2 x hx m List.mem_cons_self
  · rw [← e]
    exact hp.2.1.1 x hx
theorem split_no {ms : List Me} {t : ByteArray} (h : chk ms = 0) (hh : has (nms ms) t = false) : ∃ L R, ms = L ++ R ∧ Lo L t ∧ Hi R t := by
  have hp := ((chk_iff _).1 h).2.1
  clear h
  unfold has nms at hh
  rw [List.any_eq_false] at hh
  induction ms with
  | nil => exact ⟨[], [], rfl, fun x hx => (by cases hx), fun x hx => (by cases hx)⟩
  | cons m ms ih =>
    rw [List.pairwise_cons] at hp
    cases k : lt m.nm t
    · have hne : m.nm ≠ t := by simpa using hh m.nm (by simp)
      have hlt : lt t m.nm = true := by
        cases k2 : lt t m.nm
        · exact absurd (lt_total k k2) hne
        · rfl
      refine ⟨[], m :: ms, rfl, fun x hx => (by cases hx), fun x hx => ?_⟩
      rcases List.mem_cons.1 hx with rfl | hx
      · exact hlt
      · exact lt_trans hlt (hp.1 x hx)
    · obtain ⟨L, R, rfl, h1, h2⟩ := ih (fun y hy => hh y (List.mem_cons_of_mem _ hy)) hp.2
      refine ⟨m :: L, R, rfl, fun x hx => ?_, h2⟩
      rcases List.mem_cons.1 hx with rfl | hx
      · exact k
      · exact h1 x hx
theorem lo_cons {L : List Me} {t : ByteArray} : Lo L t → ∀ x ∈ L, x.nm ≠ t := fun h x hx e => by
  have := h x hx
  rw [e, lt_irrefl] at this
  cases this
theorem hi_cons {R : List Me} {t : ByteArray} : Hi R t → ∀ x ∈ R, x.nm ≠ t := fun h x hx e => by
  have := h x hx
  rw [e, lt_irrefl] at this
  cases this
/-- a member in the midst -/
theorem chk_put {L R : List Me} {m : Me} {t : ByteArray} (hL : Lo L t) (hR : Hi R t) (hm : m.nm = t) (hp : (L ++ R).Pairwise (fun x y => lt x.nm y.nm = true)) (hv : ∀ x ∈ L ++ R, val x = true) (hvm : val m = true) (hn : (L ++ R).length < 64) : chk (L ++ m :: R) = 0 := by
  rw [List.pairwise_append] at hp
  refine (chk_iff _).2 ⟨?_, ?_, fun x hx => ?_⟩
  · rw [List.length_append] at hn
    rw [List.length_append, List.length_cons]
    omega
  · rw [List.pairwise_append, List.pairwise_cons]
    refine ⟨hp.1, ⟨fun x hx => by rw [hm]; exact hR x hx, hp.2.1⟩, fun x hx y hy => ?_⟩
    rcases List.mem_cons.1 hy with rfl | hy
    · rw [hm]; exact hL x hx
    · exact hp.2.2 x hx y hy
  · rcases List.mem_append.1 hx with h | h
    · exact hv x (List.mem_append_left _ h)
    · rcases List.mem_cons.1 h with rfl | h
      · exact hvm
      · exact hv x (List.mem_append_right _ h)
theorem chk_del {L R : List Me} {m : Me} (h : chk (L ++ m :: R) = 0) : (L ++ R).Pairwise (fun x y => lt x.nm y.nm = true) ∧ (∀ x ∈ L ++ R, val x = true) ∧ (L ++ R).length < 64 ∧ val m = true ∧ chk (L ++ R) = 0 := by
  obtain ⟨h1, h2, h3⟩ := (chk_iff _).1 h
  have hs : (L ++ R).Sublist (L ++ m :: R) := List.Sublist.append (List.Sublist.refl _) (List.sublist_cons_self _ _)
  have hp := h2.sublist hs
  have hv : ∀ x ∈ L ++ R, val x = true := fun x hx => h3 x (hs.subset hx)
  have hl : (L ++ R).length < 64 := by
    rw [List.length_append, List.length_cons] at h1
    rw [List.length_append]
    omega
  exact ⟨hp, hv, hl, h3 m (by simp), (chk_iff _).2 ⟨by omega, hp, hv⟩⟩
theorem chg_eq {L R : List Me} {m : Me} {t : ByteArray} (f : Me → Me × Int) (h : chk (L ++ m :: R) = 0) (hL : Lo L t) (hm : m.nm = t) :
    chgF (L ++ m :: R) t f = if (f m).2 = 0 then (if val (f m).1 then (L ++ (f m).1 :: R, 0) else ([], 52)) else ([], (f m).2) := by
  unfold chgF
  rw [if_pos (show plE (L ++ m :: R) t = 0 by unfold plE; rw [if_pos h, if_pos (has_mid hm)])]
  unfold at_
  rw [pos_mid hL hm, gm_mid]
  dsimp only
  rw [set_mid]
theorem leave_eq {L R : List Me} {m : Me} {t : ByteArray} (h : chk (L ++ m :: R) = 0) (hL : Lo L t) (hm : m.nm = t) :
    leaveF (L ++ m :: R) t = if ex m.ac = 0 then (L ++ R, 0) else ([], 20) := by
  unfold leaveF
  rw [if_pos (show plE (L ++ m :: R) t = 0 by unfold plE; rw [if_pos h, if_pos (has_mid hm)])]
  unfold at_
  rw [pos_mid hL hm, gm_mid, del_mid]
theorem chg_ne {ms : List Me} {t : ByteArray} (f : Me → Me × Int) (h : (chgF ms t f).2 ≠ 0) : (chgF ms t f).1 = [] := by
  unfold chgF at h ⊢
  dsimp only at h ⊢
  repeat' split at h
  all_goals simp_all
theorem chg_in {ms ms' : List Me} {t : ByteArray} {f : Me → Me × Int} (h : chgF ms t f = (ms', 0)) : chk ms = 0 ∧ ∃ L m R, ms = L ++ m :: R ∧ m.nm = t ∧ Lo L t ∧ Hi R t ∧ (f m).2 = 0 ∧ val (f m).1 = true ∧ ms' = L ++ (f m).1 :: R := by
  have hE : plE ms t = 0 := by
    unfold chgF at h
    split at h
    · assumption
    · rename_i g
      exact absurd (congrArg Prod.snd h) g
  have hc : chk ms = 0 ∧ has (nms ms) t = true := by
    unfold plE at hE
    split at hE
    · rename_i g
      refine ⟨g, ?_⟩
      cases k : has (nms ms) t
      · rw [k] at hE; cases hE
      · rfl
    · cases hE
  obtain ⟨L, m, R, rfl, hm, hL, hR⟩ := split_has hc.1 hc.2
  rw [chg_eq f hc.1 hL hm] at h
  refine ⟨hc.1, L, m, R, rfl, hm, hL, hR, ?_⟩
  split at h
  · rename_i g
    split at h
    · rename_i g2
      injection h with h _
      exact ⟨g, g2, h.symm⟩
    · injection h with _ h
      cases h
  · rename_i g
    injection h with _ h
    exact absurd h g
theorem leave_in {ms ms' : List Me} {t : ByteArray} (h : leaveF ms t = (ms', 0)) : chk ms = 0 ∧ ∃ L m R, ms = L ++ m :: R ∧ m.nm = t ∧ Lo L t ∧ Hi R t ∧ ex m.ac = 0 ∧ ms' = L ++ R := by
  have hE : plE ms t = 0 := by
    unfold leaveF at h
    split at h
    · assumption
    · rename_i g
      exact absurd (congrArg Prod.snd h) g
  have hc : chk ms = 0 ∧ has (nms ms) t = true := by
    unfold plE at hE
    split at hE
    · rename_i g
      refine ⟨g, ?_⟩
      cases k : has (nms ms) t
      · rw [k] at hE; cases hE
      · rfl
    · cases hE
  obtain ⟨L, m, R, rfl, hm, hL, hR⟩ := split_has hc.1 hc.2
  rw [leave_eq hc.1 hL hm] at h
  refine ⟨hc.1, L, m, R, rfl, hm, hL, hR, ?_⟩
  split at h
  · rename_i g
    injection h with h _
    exact ⟨g, h.symm⟩
  · injection h with _ h
    cases h
theorem join_in {ms ms' : List Me} {t : ByteArray} {ro lim : Int} (h : joinF ms t ro lim = (ms', 0)) : chk ms = 0 ∧ ∃ L R, ms = L ++ R ∧ Lo L t ∧ Hi R t ∧ val (newM t ro lim) = true ∧ ms.length < 64 ∧ ms' = L ++ newM t ro lim :: R := by
  unfold joinF at h
  split at h
  case isFalse => injection h with _ h; cases h
  rename_i hc
  split at h
  case isFalse => injection h with _ h; cases h
  rename_i hv
  split at h
  case isTrue => injection h with _ h; cases h
  rename_i hh
  split at h
  case isTrue => injection h with _ h; cases h
  rename_i hl
  obtain ⟨L, R, rfl, hL, hR⟩ := split_no hc (by simpa using hh)
  refine ⟨hc, L, R, rfl, hL, hR, hv, by have := ((chk_iff _).1 hc).1; omega, ?_⟩
  rw [pos_lo hL (by intro x hx; exact lt_asymm (hR x (List.mem_of_mem_head? hx))), ins_mid] at h
  injection h with h _
  exact h.symm
end Go.Proofs.Ytoemjpfoddeinaa.Mb
