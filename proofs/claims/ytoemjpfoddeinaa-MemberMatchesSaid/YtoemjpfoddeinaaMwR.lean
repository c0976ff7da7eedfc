/-
  Member: what the laws say of a call, plainly.
-/
import Derived.Test.YtoemjpfoddeinaaMwQ
namespace Go.Proofs.Ytoemjpfoddeinaa.Mb
open Go.RowKit Go.Proofs.Ytoemjpfoddeinaa Go.Proofs.Ytoemjpfoddeinaa.Ls Go.Proofs.Ytoemjpfoddeinaa.Kb
open Go.Proofs.Ytoemjpfoddeinaa.Nm hiding ret_bool ret_int

/-- the change of a call -/
def fOp (o : Opp) : Me → Me × Int :=
  if o.kd = 2 then fLim o.am else if o.kd = 3 then fSus o.is else if o.kd = 4 then fOpen o.fr o.is o.am else if o.kd = 5 then fClose o.fr else if o.kd = 6 then fMove o.fr o.tt o.am else fUse o.fr o.am
theorem call_eq (ms : List Me) (o : Opp) : callF ms o = if o.kd = 0 then joinF ms o.nm o.ro o.am else if o.kd = 1 then leaveF ms o.nm else chgF ms o.nm (fOp o) := by
  unfold callF fOp
  by_cases h0 : o.kd = 0
  · rw [if_pos h0, if_pos h0]
  · rw [if_neg h0, if_neg h0]
    by_cases h1 : o.kd = 1
    · rw [if_pos h1, if_pos h1]
    · rw [if_neg h1, if_neg h1]
      by_cases h2 : o.kd = 2
      · rw [if_pos h2, if_pos h2]
      · rw [if_neg h2, if_neg h2]
        by_cases h3 : o.kd = 3
        · rw [if_pos h3, if_pos h3]
        · rw [if_neg h3, if_neg h3]
          by_cases h4 : o.kd = 4
          · rw [if_pos h4, if_pos h4]
          · rw [if_neg h4, if_neg h4]
            by_cases h5 : o.kd = 5
            · rw [if_pos h5, if_pos h5]
            · rw [if_neg h5, if_neg h5]
              by_cases h6 : o.kd = 6
              · rw [if_pos h6, if_pos h6]
              · rw [if_neg h6, if_neg h6]
theorem fLim_nm (lim : Int) (m : Me) : (fLim lim m).1.nm = m.nm := by unfold fLim; split <;> rfl
theorem fSus_nm (is : Bool) (m : Me) : (fSus is m).1.nm = m.nm := by unfold fSus; split <;> rfl
theorem fOpen_nm (t : ByteArray) (cl : Bool) (lim : Int) (m : Me) : (fOpen t cl lim m).1.nm = m.nm := by
  unfold fOpen
  repeat' split
  all_goals rfl
theorem fClose_nm (t : ByteArray) (m : Me) : (fClose t m).1.nm = m.nm := by
  unfold fClose
  repeat' split
  all_goals rfl
theorem fUse_nm (t : ByteArray) (n : Int) (m : Me) : (fUse t n m).1.nm = m.nm := by
  unfold fUse
  repeat' split
  all_goals rfl
theorem fMove_nm (fr tt : ByteArray) (n : Int) (m : Me) : (fMove fr tt n m).1.nm = m.nm := by
  unfold fMove
  repeat' split
  all_goals rfl
theorem fOp_nm (o : Opp) (m : Me) : (fOp o m).1.nm = m.nm := by
  unfold fOp
  repeat' split
  · exact fLim_nm _ _
  · exact fSus_nm _ _
  · exact fOpen_nm _ _ _ _
  · exact fClose_nm _ _
  · exact fMove_nm _ _ _ _
  · exact fUse_nm _ _ _
/-- an accepted call, in its three forms -/
theorem call_in {ms ms' : List Me} {o : Opp} (h : callF ms o = (ms', 0)) : chk ms = 0 ∧ chk ms' = 0 ∧ ∃ L R, Lo L o.nm ∧ Hi R o.nm ∧
    ((o.kd = 0 ∧ ms = L ++ R ∧ ms' = L ++ newM o.nm o.ro o.am :: R) ∨ (o.kd = 1 ∧ ∃ m, m.nm = o.nm ∧ ms = L ++ m :: R ∧ ms' = L ++ R) ∨
     (o.kd ≠ 0 ∧ o.kd ≠ 1 ∧ ∃ m, m.nm = o.nm ∧ ms = L ++ m :: R ∧ (fOp o m).2 = 0 ∧ val m = true ∧ val (fOp o m).1 = true ∧ ms' = L ++ (fOp o m).1 :: R)) := by
  rw [call_eq] at h
  split at h
  · rename_i hk
    obtain ⟨hc, L, R, rfl, hL, hR, hv, hl, rfl⟩ := join_in h
    obtain ⟨_, h2, h3⟩ := (chk_iff _).1 hc
    exact ⟨hc, chk_put hL hR rfl h2 h3 hv hl, L, R, hL, hR, .inl ⟨hk, rfl, rfl⟩⟩
  · rename_i hk
    split at h
    · rename_i hk1
      obtain ⟨hc, L, m, R, rfl, hm, hL, hR, _, rfl⟩ := leave_in h
      exact ⟨hc, (chk_del hc).2.2.2.2, L, R, hL, hR, .inr (.inl ⟨hk1, m, hm, rfl, rfl⟩)⟩
    · rename_i hk1
      obtain ⟨hc, L, m, R, rfl, hm, hL, hR, h1, h2, rfl⟩ := chg_in h
      obtain ⟨hp, hv, hl, hvm, _⟩ := chk_del hc
      exact ⟨hc, chk_put hL hR (by rw [fOp_nm]; exact hm) hp hv h2 hl, L, R, hL, hR, .inr (.inr ⟨hk, hk1, m, hm, rfl, h1, hvm, h2, rfl⟩)⟩
theorem call_ne {ms : List Me} {o : Opp} (h : (callF ms o).2 ≠ 0) : (callF ms o).1 = [] := by
  rw [call_eq] at h ⊢
  split
  · rename_i hk
    rw [if_pos hk] at h
    unfold joinF at h ⊢
    repeat' split at h
    all_goals simp_all
  · rename_i hk
    rw [if_neg hk] at h
    split
    · rename_i hk1
      rw [if_pos hk1] at h
      unfold leaveF at h ⊢
      repeat' split at h
      all_goals simp_all
    · rename_i hk1
      rw [if_neg hk1] at h
      exact chg_ne _ h

/-! finding -/
theorem fd_mid {L R : List Me} {m : Me} {t : ByteArray} (hL : Lo L t) (hm : m.nm = t) : fdM (L ++ m :: R) t = (m, true) := by
  unfold fdM
  have : (L ++ m :: R).find? (fun m => decide (m.nm = t)) = some m := by
    rw [List.find?_append, List.find?_eq_none.2 (fun x hx => by simpa using lo_cons hL x hx)]
    simp [hm]
  rw [this]
theorem fd_none {L R : List Me} {t : ByteArray} (hL : Lo L t) (hR : Hi R t) : fdM (L ++ R) t = (me0, false) := by
  unfold fdM
  have : (L ++ R).find? (fun m => decide (m.nm = t)) = none := by
    rw [List.find?_append, List.find?_eq_none.2 (fun x hx => by simpa using lo_cons hL x hx), List.find?_eq_none.2 (fun x hx => by simpa using hi_cons hR x hx)]
    rfl
  rw [this]
theorem fd_yes_in {ms : List Me} {t : ByteArray} {m : Me} (h : fdM ms t = (m, true)) : m ∈ ms ∧ m.nm = t := by
  unfold fdM at h
  split at h
  · rename_i x hx
    injection h with h _
    subst h
    exact ⟨List.mem_of_find?_eq_some hx, by simpa using List.find?_some hx⟩
  · injection h with _ h
    cases h
/-- the members of other names -/
def oth (ms : List Me) (t : ByteArray) : List Me := ms.filter (fun x => !decide (x.nm = t))
theorem oth_lo {L : List Me} {t : ByteArray} (h : Lo L t) : oth L t = L := by
  unfold oth
  rw [List.filter_eq_self]
  intro x hx
  simpa using lo_cons h x hx
theorem oth_hi {R : List Me} {t : ByteArray} (h : Hi R t) : oth R t = R := by
  unfold oth
  rw [List.filter_eq_self]
  intro x hx
  simpa using hi_cons h x hx
theorem oth_no {L R : List Me} {t : ByteArray} (hL : Lo L t) (hR : Hi R t) : oth (L ++ R) t = L ++ R := by
  have : oth (L ++ R) t = oth L t ++ oth R t := List.filter_append _ _
  rw [this, oth_lo hL, oth_hi hR]
theorem oth_mid {L R : List Me} {m : Me} {t : ByteArray} (hL : Lo L t) (hR : Hi R t) (hm : m.nm = t) : oth (L ++ m :: R) t = L ++ R := by
  have h1 : oth (L ++ m :: R) t = oth L t ++ oth (m :: R) t := List.filter_append _ _
  have h2 : oth (m :: R) t = oth R t := by unfold oth; rw [List.filter_cons]; simp [hm]
  rw [h1, h2, oth_lo hL, oth_hi hR]
theorem find_oth (ms : List Me) (t u : ByteArray) (h : u ≠ t) : (oth ms t).find? (fun m => decide (m.nm = u)) = ms.find? (fun m => decide (m.nm = u)) := by
  unfold oth
  induction ms with
  | nil => rfl
  | cons x ms ih =>
    rw [List.filter_cons]
    by_cases hx : x.nm = t
    · have h1 : x.nm ≠ u := fun e => h (by rw [← e, hx])
      rw [if_neg (by simp [hx]), ih, List.find?_cons, decide_eq_false h1]
    · rw [if_pos (by simp [hx]), List.find?_cons, List.find?_cons, ih]
theorem fd_oth (ms : List Me) (t u : ByteArray) (h : u ≠ t) : fdM (oth ms t) u = fdM ms u := by
  unfold fdM
  rw [find_oth ms t u h]
/-- the law Others -/
theorem call_others {ms ms' : List Me} {o : Opp} (h : callF ms o = (ms', 0)) : (∀ m ∈ ms, m.nm ≠ o.nm → fdM ms' m.nm = (m, true)) ∧ ms'.length = (oth ms o.nm).length + (if (fdM ms' o.nm).2 then 1 else 0) := by
  obtain ⟨hc, hc', L, R, hL, hR, hh⟩ := call_in h
  have hoth : oth ms' o.nm = oth ms o.nm := by
    rcases hh with ⟨_, rfl, rfl⟩ | ⟨_, m, hm, rfl, rfl⟩ | ⟨_, _, m, hm, rfl, _, _, _, rfl⟩
    · rw [oth_mid hL hR rfl, oth_no hL hR]
    · rw [oth_no hL hR, oth_mid hL hR hm]
    · rw [oth_mid hL hR (by rw [fOp_nm]; exact hm), oth_mid hL hR hm]
  refine ⟨fun m hm hne => ?_, ?_⟩
  · rw [← fd_oth ms' o.nm m.nm hne, hoth, fd_oth ms o.nm m.nm hne]
    obtain ⟨A, B, rfl⟩ := List.append_of_mem hm
    have hp := ((chk_iff _).1 hc).2.1
    rw [List.pairwise_append] at hp
    exact fd_mid (fun x hx => hp.2.2 x hx m List.mem_cons_self) rfl
  · rw [← hoth]
    rcases hh with ⟨_, rfl, rfl⟩ | ⟨_, m, hm, rfl, rfl⟩ | ⟨_, _, m, hm, rfl, _, _, _, rfl⟩
    · rw [oth_mid hL hR rfl, fd_mid hL rfl, List.length_append, List.length_append, List.length_cons, if_pos rfl]
      omega
    · rw [oth_no hL hR, fd_none hL hR]
      rfl
    · rw [oth_mid hL hR (by rw [fOp_nm]; exact hm), fd_mid hL (by rw [fOp_nm]; exact hm), List.length_append, List.length_append, List.length_cons, if_pos rfl]
      omega

/-! suspended members -/
theorem susp_op {o : Opp} {m : Me} (hv : val m = true) (hs : m.su = true) (h : (fOp o m).2 = 0) : ex (fOp o m).1.ac ≤ ex m.ac ∧ (fOp o m).1.ac.length ≤ m.ac.length := by
  unfold fOp at h ⊢
  repeat' split at h
  · rename_i k
    rw [if_pos k]
    unfold fLim at h ⊢
    split
    · exact ⟨Int.le_refl _, Nat.le_refl _⟩
    · exact ⟨Int.le_refl _, Nat.le_refl _⟩
  · rename_i k2 k
    rw [if_neg k2, if_pos k]
    unfold fSus at h ⊢
    split
    · exact ⟨Int.le_refl _, Nat.le_refl _⟩
    · exact ⟨Int.le_refl _, Nat.le_refl _⟩
  · have := (open_ac hv h).1
    rw [hs] at this
    cases this
  · rename_i k2 k3 k4 k
    rw [if_neg k2, if_neg k3, if_neg k4, if_pos k]
    obtain ⟨A, a, B, e1, _, _, e2, e3⟩ := close_ac hv h
    rw [e3, e1]
    dsimp only
    rw [ex_mid, ex_app, e2]
    have : ab 0 = 0 := rfl
    rw [this, List.length_append, List.length_append, List.length_cons]
    omega
  · rename_i k2 k3 k4 k5 k
    rw [if_neg k2, if_neg k3, if_neg k4, if_neg k5, if_pos k]
    obtain ⟨h1, h2, _, _, h5, e⟩ := move_ac h
    rw [e]
    refine ⟨h5 hs, ?_⟩
    show (mvL m o.fr o.tt o.am).length ≤ _
    unfold mvL
    rw [addU_len, addU_len]
    exact Nat.le_refl _
  · rename_i k2 k3 k4 k5 k6
    rw [if_neg k2, if_neg k3, if_neg k4, if_neg k5, if_neg k6]
    obtain ⟨h1, _, h3, e⟩ := use_ac h
    rw [e]
    dsimp only
    rw [ex_addU _ _ _ (has_pos hv h1), addU_len]
    have := h3 hs
    omega
theorem expo_mid {L R : List Me} {m : Me} {t : ByteArray} (h : chk (L ++ m :: R) = 0) (hL : Lo L t) (hm : m.nm = t) : expoF (L ++ m :: R) t = (ex m.ac, 0) := by
  unfold expoF
  rw [if_pos (show plE (L ++ m :: R) t = 0 by unfold plE; rw [if_pos h, if_pos (has_mid hm)])]
  unfold at_
  rw [pos_mid hL hm, gm_mid]
theorem call_susp {ms ms' : List Me} {o : Opp} {m n : Me} (h : callF ms o = (ms', 0)) (h1 : fdM ms o.nm = (m, true)) (h2 : fdM ms' o.nm = (n, true)) (hs : m.su = true) :
    ∃ x y, expoF ms o.nm = (x, 0) ∧ expoF ms' o.nm = (y, 0) ∧ y ≤ x ∧ n.ac.length ≤ m.ac.length := by
  obtain ⟨hc, hc', L, R, hL, hR, hh⟩ := call_in h
  rcases hh with ⟨_, rfl, rfl⟩ | ⟨_, m0, hm, rfl, rfl⟩ | ⟨_, _, m0, hm, rfl, hf, hv, hv2, rfl⟩
  · rw [fd_none hL hR] at h1
    injection h1 with _ h1
    cases h1
  · rw [fd_none hL hR] at h2
    injection h2 with _ h2
    cases h2
  · have hm2 : (fOp o m0).1.nm = o.nm := by rw [fOp_nm]; exact hm
    rw [fd_mid hL hm] at h1
    injection h1 with h1 _
    subst h1
    rw [fd_mid hL hm2] at h2
    injection h2 with h2 _
    subst h2
    obtain ⟨e1, e2⟩ := susp_op hv hs hf
    exact ⟨_, _, expo_mid hc hL hm, expo_mid hc' hL hm2, e1, e2⟩

/-! calls taken back -/
/-- what takes a call back -/
def bck (o : Opp) : Opp := if o.kd = 0 then { o with kd := 1 } else if o.kd = 4 then { o with kd := 5 } else { o with am := -o.am }
theorem chg_back {L R : List Me} {m m' : Me} {t : ByteArray} (f : Me → Me × Int) (hc' : chk (L ++ m' :: R) = 0) (hL : Lo L t) (hm' : m'.nm = t) (hv : val m = true) (h : f m' = (m, 0)) : chgF (L ++ m' :: R) t f = (L ++ m :: R, 0) := by
  rw [chg_eq f hc' hL hm', h, if_pos rfl, if_pos hv]
theorem call_back {ms ms' : List Me} {o : Opp} (h : callF ms o = (ms', 0)) (hk : ¬ ((1 ≤ o.kd ∧ o.kd ≤ 3) ∨ o.kd = 5)) (h0 : 0 ≤ o.kd) :
    callF ms' (bck o) = (ms, 0) ∨ (5 < o.kd ∧ (callF ms' (bck o)) = ([], 20) ∧ ∃ m, fdM ms o.nm = (m, true) ∧ m.su = true) := by
  obtain ⟨hc, hc', L, R, hL, hR, hh⟩ := call_in h
  rcases hh with ⟨hk0, rfl, rfl⟩ | ⟨hk1, m, hm, rfl, rfl⟩ | ⟨hk0, hk1, m, hm, rfl, hf, hv, hv2, rfl⟩
  · left
    unfold bck
    rw [if_pos hk0, call_eq]
    dsimp only
    rw [if_neg (by decide), if_pos rfl, leave_eq hc' hL rfl]
    rw [if_pos (show ex (newM o.nm o.ro o.am).ac = 0 from rfl)]
  · omega
  · have hm' : (fOp o m).1.nm = o.nm := by rw [fOp_nm]; exact hm
    have hk2 : o.kd ≠ 2 := by omega
    have hk3 : o.kd ≠ 3 := by omega
    have hk5 : o.kd ≠ 5 := by omega
    by_cases hk4 : o.kd = 4
    · left
      have hfo : fOp o = fOpen o.fr o.is o.am := by unfold fOp; rw [if_neg hk2, if_neg hk3, if_pos hk4]
      unfold bck
      rw [if_neg hk0, if_pos hk4, call_eq]
      dsimp only
      rw [if_neg (by decide), if_neg (by decide)]
      refine chg_back _ hc' hL hm' hv ?_
      unfold fOp
      dsimp only
      rw [if_neg (by decide), if_neg (by decide), if_neg (by decide), if_pos rfl, if_neg hk2, if_neg hk3, if_pos hk4]
      rw [hfo] at hf
      exact open_close hv hf
    · have hb : bck o = { o with am := -o.am } := by unfold bck; rw [if_neg hk0, if_neg hk4]
      rw [hb, call_eq]
      dsimp only
      rw [if_neg hk0, if_neg hk1]
      by_cases hk6 : o.kd = 6
      · have hfo : fOp o = fMove o.fr o.tt o.am := by unfold fOp; rw [if_neg hk2, if_neg hk3, if_neg hk4, if_neg hk5, if_pos hk6]
        have hfb : fOp { o with am := -o.am } = fMove o.fr o.tt (-o.am) := by unfold fOp; dsimp only; rw [if_neg hk2, if_neg hk3, if_neg hk4, if_neg hk5, if_pos hk6]
        rw [hfb]
        rw [hfo] at hf hc' hm' ⊢
        rcases move_back hv hf with e | ⟨e1, e2⟩
        · exact .inl (chg_back _ hc' hL hm' hv e)
        · right
          refine ⟨by omega, ?_, m, fd_mid hL hm, e1⟩
          rw [chg_eq _ hc' hL hm', e2, if_neg (by decide)]
      · have hfo : fOp o = fUse o.fr o.am := by unfold fOp; rw [if_neg hk2, if_neg hk3, if_neg hk4, if_neg hk5, if_neg hk6]
        have hfb : fOp { o with am := -o.am } = fUse o.fr (-o.am) := by unfold fOp; dsimp only; rw [if_neg hk2, if_neg hk3, if_neg hk4, if_neg hk5, if_neg hk6]
        rw [hfb]
        rw [hfo] at hf hc' hm' ⊢
        rcases use_back hv hf with e | ⟨e1, e2⟩
        · exact .inl (chg_back _ hc' hL hm' hv e)
        · right
          refine ⟨by omega, ?_, m, fd_mid hL hm, e1⟩
          rw [chg_eq _ hc' hL hm', e2, if_neg (by decide)]
theorem call_sig {ms ms' : List Me} {o : Opp} (h : callF ms o = (ms', 0)) (hk : 5 < o.kd) : sig o.am = true := by
  obtain ⟨hc, hc', L, R, hL, hR, hh⟩ := call_in h
  rcases hh with ⟨hk0, _⟩ | ⟨hk1, _⟩ | ⟨_, _, m, hm, rfl, hf, hv, hv2, rfl⟩
  · omega
  · omega
  · unfold fOp at hf
    rw [if_neg (by omega), if_neg (by omega), if_neg (by omega), if_neg (by omega)] at hf
    split at hf
    · exact (move_ac hf).2.2.2.1
    · exact (use_ac hf).2.1

/-! Move -/
theorem moves_sum {ms ms' : List Me} {t fr tt : ByteArray} {a : Int} (h : chgF ms t (fMove fr tt a) = (ms', 0)) : ∃ m n, fdM ms t = (m, true) ∧ fdM ms' t = (n, true) ∧ uS m.ac = uS n.ac ∧ val m = true ∧ val n = true := by
  obtain ⟨hc, L, m, R, rfl, hm, hL, hR, hf, hv2, rfl⟩ := chg_in h
  have hv := (chk_del hc).2.2.2.1
  refine ⟨m, _, fd_mid hL hm, fd_mid hL (by rw [fMove_nm]; exact hm), ?_, hv, hv2⟩
  obtain ⟨h1, h2, h3, h4, _, e⟩ := move_ac hf
  rw [e]
  show uS m.ac = uS (mvL m fr tt a)
  unfold mvL
  rw [uS_addU _ _ _ (by rw [addU_len]; exact has_pos hv h2), uS_addU _ _ _ (has_pos hv h1)]
  omega
theorem moves_two {ms m1 m2 : List Me} {t fr tt : ByteArray} {a : Int} (h1 : chgF ms t (fUse fr (-a)) = (m1, 0)) (h2 : chgF m1 t (fUse tt a) = (m2, 0)) (hne : fr ≠ tt) : chgF ms t (fMove fr tt a) = (m2, 0) := by
  obtain ⟨hc, L, m, R, rfl, hm, hL, hR, hf, hv1, rfl⟩ := chg_in h1
  have hv := (chk_del hc).2.2.2.1
  have hm1 : (fUse fr (-a) m).1.nm = t := by rw [fUse_nm]; exact hm
  have hc1 := (chg_in h2).1
  rw [chg_eq _ hc1 hL hm1] at h2
  have hf2 : (fUse tt a (fUse fr (-a) m).1).2 = 0 := by
    split at h2
    · assumption
    · rename_i g
      exact absurd (congrArg Prod.snd h2) g
  rw [if_pos hf2] at h2
  have hv2 : val (fUse tt a (fUse fr (-a) m).1).1 = true := by
    split at h2
    · assumption
    · injection h2 with _ h2
      cases h2
  rw [if_pos hv2] at h2
  injection h2 with h2 _
  obtain ⟨a1, a2, a3, e1⟩ := use_ac hf
  obtain ⟨b1, b2, b3, e2⟩ := use_ac hf2
  rw [e2] at h2 hv2
  rw [e1] at b1 b3 h2 hv2
  dsimp only at b1 b3 h2 hv2
  have hp := has_pos hv a1
  rw [nas_addU _ _ _ hp] at b1 b3 h2 hv2
  have hq := has_pos hv b1
  have hpq := pos_ne (val_parts hv).1 a1 b1 hne
  have hmv : fMove fr tt a m = ({ m with ac := mvL m fr tt a }, 0) := by
    unfold fMove
    rw [a1, b1, decide_eq_false hne, b2]
    rw [if_pos (by rfl), if_pos (by rfl)]
    rw [if_neg]
    rw [Bool.and_eq_true, decide_eq_true_eq]
    rintro ⟨hs, hlt⟩
    unfold mvL at hlt
    rw [ex_addU _ _ _ (by rw [addU_len]; exact hq), ex_addU _ _ _ hp, ga_addU_ne _ _ _ _ hpq] at hlt
    rw [ga_addU_ne _ _ _ _ hpq] at b3
    have := a3 hs
    have := b3 hs
    omega
  rw [chg_eq _ hc hL hm, hmv, if_pos rfl]
  unfold mvL
  rw [if_pos hv2, ← h2]
/-- negation of a number in range -/
theorem neg_wrap {a : Int} (h : i64 a) (hs : sig (IntKind.i64.wrap (-a)) = true) : IntKind.i64.wrap (-a) = -a := by
  by_cases e : a = -9223372036854775808
  · subst e
    have : sig (IntKind.i64.wrap (-(-9223372036854775808))) = false := by decide
    rw [this] at hs
    cases hs
  · unfold i64 at h
    exact IntWalk.i64_in _ (by omega)
theorem use_sig {ms m1 : List Me} {t fr : ByteArray} {a : Int} (h1 : chgF ms t (fUse fr a) = (m1, 0)) : sig a = true := by
  obtain ⟨hc, L, m, R, rfl, hm, hL, hR, hf, hv1, rfl⟩ := chg_in h1
  exact (use_ac hf).2.1
theorem uS_bound (l : List Ac) (h : ∀ y ∈ l, -1125899906842624 ≤ y.us ∧ y.us ≤ 1125899906842624) : -(1125899906842624 * (l.length : Int)) ≤ uS l ∧ uS l ≤ 1125899906842624 * (l.length : Int) := by
  induction l with
  | nil => simp [uS]
  | cons x l ih =>
    have h1 := ih (fun y hy => h y (List.mem_cons_of_mem _ hy))
    have h2 := h x List.mem_cons_self
    rw [uS_cons, List.length_cons]
    omega
theorem uS_take (l : List Ac) (k : Nat) (hk : k < l.length) : uS (l.take (k + 1)) = uS (l.take k) + (ga l k).us := by rw [take_succ_a l k hk, uS_snoc]
theorem gm_mem (ms : List Me) (i : Nat) (h : i < ms.length) : gm ms i ∈ ms := by unfold gm; rw [List.getD_eq_getElem?_getD, List.getElem?_eq_getElem h]; exact List.getElem_mem _
theorem St.at {w : World} {a : Option Addr} {ms : List Me} (h : St w a ms) (i : Nat) (hi : i < ms.length) : ∃ b off pa pc, a = some ⟨b, off, none⟩ ∧ w.cell? ⟨b, off + i * 5, none⟩ = some (.string (gm ms i).nm) ∧ w.cell? ⟨b, off + i * 5 + 1, none⟩ = some (.int .u8 (gm ms i).ro) ∧
    w.cell? ⟨b, off + i * 5 + 2, none⟩ = some (.bool (gm ms i).su) ∧ w.cell? ⟨b, off + i * 5 + 3, none⟩ = some (.int .i64 (gm ms i).lim) ∧ w.cell? ⟨b, off + i * 5 + 4, none⟩ = some (.slice pa (gm ms i).ac.length pc) ∧ AtL w 4 acc pa (gm ms i).ac := by
  obtain ⟨xs, rfl, hA⟩ := h
  rw [fst_len] at hi
  obtain ⟨b, off, ha, h0⟩ := at_p hA.ms i hi
  rw [gm_fst]
  exact ⟨b, off, _, _, ha, h0.1, h0.2.1, h0.2.2.1, h0.2.2.2.1, h0.2.2.2.2, hA.ac _ (gp_mem xs i hi)⟩
theorem take_succ_m (L : List Me) (k : Nat) (h : k < L.length) : L.take (k + 1) = L.take k ++ [gm L k] := by
  rw [List.take_add_one, List.getElem?_eq_getElem h]
  unfold gm
  rw [List.getD_eq_getElem?_getD, List.getElem?_eq_getElem h]
  rfl
theorem oth_take (ms : List Me) (t : ByteArray) (k : Nat) (h : k < ms.length) : (oth (ms.take (k + 1)) t).length = (oth (ms.take k) t).length + if (gm ms k).nm = t then 0 else 1 := by
  rw [take_succ_m ms k h]
  unfold oth
  rw [List.filter_append, List.length_append, List.filter_cons]
  by_cases hx : (gm ms k).nm = t <;> simp [hx]
theorem oth_take_le (ms : List Me) (t : ByteArray) (k : Nat) : (oth (ms.take k) t).length ≤ k := by
  unfold oth
  have := List.length_filter_le (fun x : Me => !decide (x.nm = t)) (ms.take k)
  rw [List.length_take] at this
  omega
/-- accounts that are read lie in no member's box -/
theorem acc_far {w w' : World} {B : Nat} {a : Option Addr} {l : List Ac} {v0 : ByteArray} {v1 v3 : Int} {v2 : Bool} {v4 : Value} {T : TypeId} (h : AtL w 4 acc a l) (hB : w.heap[B]? = some (.cells #[.string v0, .int .u8 v1, .bool v2, .int .i64 v3, v4] T (0, 0))) (h4 : ∀ s, v4 ≠ .string s)
    (hw : ∀ b, b ≠ B → w'.heap[b]? = w.heap[b]?) : AtL w' 4 acc a l := by
  intro i x hix
  obtain ⟨b, off, ha, hc⟩ := h i x hix
  have h0 := hc 0 _ rfl
  have h1 := hc 1 _ rfl
  refine ⟨b, off, ha, fun j u hu => ?_⟩
  by_cases hb : b = B
  · exfalso
    subst hb
    have e0 : ∀ k (u : Value), w.cell? ⟨b, k, none⟩ = some u → (#[.string v0, .int .u8 v1, .bool v2, .int .i64 v3, v4] : Array Value)[k]? = some u := fun k u h => by
      simpa [World.cell?, hB] using h
    have c0 := e0 _ _ h0
    have c1 := e0 _ _ h1
    generalize off + i * 4 = k at c0 c1
    match k with
    | 0 => simp at c1
    | 1 => simp at c0
    | 2 => simp at c0
    | 3 => simp at c0
    | 4 => exact h4 _ (by simpa using c0)
    | k + 5 => simp at c0
  · have := hc j u hu
    rw [← this]
    exact World.cell?_of_block (hw b hb)
theorem m_new {w0 w4 : World} {n c : Nat} {a : Option Addr} {m : Me} (k : Below w0.heap.size w0 w4) (hT : AtL w4 4 acc a m.ac) :
    (w4.alloc (.cells #[.string m.nm, .int .u8 m.ro, .bool m.su, .int .i64 m.lim, .slice a n c] 30)).heap[w4.heap.size]? = some (.cells #[.string m.nm, .int .u8 m.ro, .bool m.su, .int .i64 m.lim, .slice a n c] 30 (0, 0)) ∧ Below w0.heap.size w0 (w4.alloc (.cells #[.string m.nm, .int .u8 m.ro, .bool m.su, .int .i64 m.lim, .slice a n c] 30)) ∧ AtL (w4.alloc (.cells #[.string m.nm, .int .u8 m.ro, .bool m.su, .int .i64 m.lim, .slice a n c] 30)) 4 acc a m.ac :=
  ⟨blk_new _ _, k.alloc k.size _, hT.below ((Below.refl _ _).alloc (Nat.le_refl _) _)⟩
theorem m_set {w0 w4 : World} {B n c : Nat} {a : Option Addr} {m : Me} {z0 : ByteArray} {z1 z3 : Int} {z2 : Bool} (k : Below w0.heap.size w0 w4) (h : w4.heap[B]? = some (.cells #[.string z0, .int .u8 z1, .bool z2, .int .i64 z3, .slice none 0 0] 30 (0, 0))) (hT : AtL w4 4 acc a m.ac) (hB : w0.heap.size ≤ B) :
    (((((w4.setCell ⟨B, 0, none⟩ (.string m.nm)).setCell ⟨B, 1, none⟩ (.int .u8 m.ro)).setCell ⟨B, 2, none⟩ (.bool m.su)).setCell ⟨B, 3, none⟩ (.int .i64 m.lim)).setCell ⟨B, 4, none⟩ (.slice a n c)).heap[B]? = some (.cells #[.string m.nm, .int .u8 m.ro, .bool m.su, .int .i64 m.lim, .slice a n c] 30 (0, 0)) ∧ Below w0.heap.size w0 (((((w4.setCell ⟨B, 0, none⟩ (.string m.nm)).setCell ⟨B, 1, none⟩ (.int .u8 m.ro)).setCell ⟨B, 2, none⟩ (.bool m.su)).setCell ⟨B, 3, none⟩ (.int .i64 m.lim)).setCell ⟨B, 4, none⟩ (.slice a n c)) ∧ AtL (((((w4.setCell ⟨B, 0, none⟩ (.string m.nm)).setCell ⟨B, 1, none⟩ (.int .u8 m.ro)).setCell ⟨B, 2, none⟩ (.bool m.su)).setCell ⟨B, 3, none⟩ (.int .i64 m.lim)).setCell ⟨B, 4, none⟩ (.slice a n c)) 4 acc a m.ac := by
  refine ⟨set5 h _ _ _ _ _, ((((k.setCell (p := ⟨B, 0, none⟩) hB _).setCell (p := ⟨B, 1, none⟩) hB _).setCell (p := ⟨B, 2, none⟩) hB _).setCell (p := ⟨B, 3, none⟩) hB _).setCell (p := ⟨B, 4, none⟩) hB _, acc_far hT h (fun s e => by cases e) fun b hb => ?_⟩
  simp [World.setCell, Array.getElem?_modify, Ne.symm hb]
theorem wrap_i64 (x : Int) : i64 (IntKind.i64.wrap x) := by unfold i64; rw [IntKind.wrap_i64]; omega
theorem t_set {w0 w4 : World} {B B0 c4 n : Nat} {a4 : Option Addr} {ms : List Me} {z : Value} (k : Below w0.heap.size w0 w4) (h : w4.heap[B]? = some (.cells #[z] 24 (0, 0))) (hT : StO w4 B0 a4 c4 ms) (hB : w0.heap.size ≤ B) :
    (w4.setCell ⟨B, 0, none⟩ (.slice a4 n c4)).heap[B]? = some (.cells #[.slice a4 n c4] 24 (0, 0)) ∧ Below w0.heap.size w0 (w4.setCell ⟨B, 0, none⟩ (.slice a4 n c4)) ∧ St (w4.setCell ⟨B, 0, none⟩ (.slice a4 n c4)) a4 ms :=
  ⟨set1 h _, k.setCell (p := ⟨B, 0, none⟩) hB _, (hT.far (i := 0) h _).st⟩
theorem t_new {w0 w4 : World} {B0 c4 n : Nat} {a4 : Option Addr} {ms : List Me} (k : Below w0.heap.size w0 w4) (hT : StO w4 B0 a4 c4 ms) :
    (w4.alloc (.cells #[.slice a4 n c4] 24)).heap[w4.heap.size]? = some (.cells #[.slice a4 n c4] 24 (0, 0)) ∧ Below w0.heap.size w0 (w4.alloc (.cells #[.slice a4 n c4] 24)) ∧ St (w4.alloc (.cells #[.slice a4 n c4] 24)) a4 ms :=
  ⟨blk_new _ _, k.alloc k.size _, hT.st.below ((Below.refl _ _).alloc (Nat.le_refl _) _)⟩
theorem below_al {w0 w : World} (h : Below w0.heap.size w0 w) (o : Obj) : Below w0.heap.size w0 (w.alloc o) := h.alloc h.size o
end Go.Proofs.Ytoemjpfoddeinaa.Mb
