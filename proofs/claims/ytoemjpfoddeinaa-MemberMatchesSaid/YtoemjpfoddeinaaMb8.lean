/-
  Member: where a name stands; the walk of place; what the calls do, plain.
-/
import Derived.Test.YtoemjpfoddeinaaMb7
namespace Go.Proofs.Ytoemjpfoddeinaa.Mb
open Go.RowKit Go.Proofs.Ytoemjpfoddeinaa Go.Proofs.Ytoemjpfoddeinaa.Ls Go.Proofs.Ytoemjpfoddeinaa.Kb
open Go.Proofs.Ytoemjpfoddeinaa.Nm hiding ret_bool ret_int

/-- where a name stands, or would; whether it is there -/
def pos (l : List ByteArray) (t : ByteArray) : Nat := (l.takeWhile fun x => lt x t).length
def has (l : List ByteArray) (t : ByteArray) : Bool := l.any fun x => decide (x = t)
theorem pos_le (l : List ByteArray) (t : ByteArray) : pos l t ≤ l.length := by
  unfold pos
  induction l with
  | nil => simp
  | cons x l ih =>
    rw [List.takeWhile_cons]
    split <;> simp_all
theorem pos_lt (l : List ByteArray) (t : ByteArray) (i : Nat) (h : i < pos l t) : lt (gs l i) t = true := by
  unfold pos at h
  induction l generalizing i with
  | nil => simp at h
  | cons x l ih =>
    rw [List.takeWhile_cons] at h
    split at h
    · rename_i hx
      cases i with
      | zero => exact hx
      | succ i => rw [gs_succ]; exact ih i (by simpa using h)
    · simp at h
theorem pos_at (l : List ByteArray) (t : ByteArray) (h : pos l t < l.length) : lt (gs l (pos l t)) t = false := by
  unfold pos at h ⊢
  induction l with
  | nil => simp at h
  | cons x l ih =>
    rw [List.takeWhile_cons] at h ⊢
    split
    · rename_i hx
      rw [if_pos hx] at h
      rw [List.length_cons, gs_succ]
      exact ih (by simpa using h)
    · rename_i hx
      simpa [gs] using hx
theorem pos_ge (l : List ByteArray) (t : ByteArray) (hs : srt l = true) (i : Nat) (h : pos l t ≤ i) (hi : i < l.length) : lt (gs l i) t = false := by
  have h0 := pos_at l t (by omega)
  rcases Nat.eq_or_lt_of_le h with e | e
  · rw [← e]; exact h0
  · have h1 := ((srt_iff l).1 hs).lt _ i e hi
    cases k : lt (gs l i) t
    · rfl
    · rw [lt_trans h1 k] at h0
      cases h0
theorem gs_mem (l : List ByteArray) (i : Nat) (h : i < l.length) : gs l i ∈ l := by
  unfold gs
  rw [List.getD_eq_getElem?_getD, List.getElem?_eq_getElem h]
  exact List.getElem_mem _
theorem has_iff (l : List ByteArray) (t : ByteArray) : has l t = true ↔ ∃ i, i < l.length ∧ gs l i = t := by
  unfold has
  rw [List.any_eq_true]
  constructor
  · rintro ⟨x, hx, e⟩
    obtain ⟨i, hi, rfl⟩ := List.mem_iff_getElem.1 hx
    refine ⟨i, hi, ?_⟩
    unfold gs
    rw [List.getD_eq_getElem?_getD, List.getElem?_eq_getElem hi]
    simpa using e
  · rintro ⟨i, hi, e⟩
    exact ⟨_, gs_mem l i hi, by simpa using e⟩
theorem pos_has (l : List ByteArray) (t : ByteArray) (hs : srt l = true) (h : has l t = true) : pos l t < l.length ∧ gs l (pos l t) = t := by
  obtain ⟨i, hi, e⟩ := (has_iff l t).1 h
  have h1 : pos l t ≤ i := by
    rcases Nat.lt_or_ge i (pos l t) with g | g
    · have := pos_lt l t i g
      rw [e, lt_irrefl] at this
      cases this
    · exact g
  refine ⟨by omega, ?_⟩
  have h2 := pos_at l t (by omega)
  rcases Nat.eq_or_lt_of_le h1 with g | g
  · rw [g]; exact e
  · have h3 := ((srt_iff l).1 hs).lt _ i g hi
    rw [e, h2] at h3
    cases h3
theorem has_eq (l : List ByteArray) (t : ByteArray) (hs : srt l = true) : has l t = (decide (pos l t < l.length) && (cmpS (gs l (pos l t)) t == 0)) := by
  cases h : has l t
  · by_cases g : pos l t < l.length
    · rw [decide_eq_true g, Bool.true_and]
      symm
      rw [beq_eq_false_iff_ne]
      intro e
      rw [(has_iff l t).2 ⟨_, g, (cmpS_zero _ _).1 e⟩] at h
      cases h
    · rw [decide_eq_false g]; rfl
  · obtain ⟨h1, h2⟩ := pos_has l t hs h
    rw [decide_eq_true h1, (cmpS_zero _ _).2 h2]; rfl

/-- the names of members and accounts -/
def nms (ms : List Me) : List ByteArray := ms.map Me.nm
def nas (l : List Ac) : List ByteArray := l.map Ac.nm
theorem nms_fst (xs : List P) : nms (fst xs) = xs.map fun x => x.1.nm := fst_nm xs
theorem gs_fst (xs : List P) (i : Nat) : gs (nms (fst xs)) i = (gp xs i).1.nm := by rw [nms_fst, gs_m]
theorem findm (a : Option Addr) (c : Nat) (xs : List P) (t : ByteArray) (w : World) (hn : xs.length ≤ 1000) (hA : AtL w 5 mec a xs) (hs : srt (nms (fst xs)) = true) :
    Calls Try.prog 40 #[.slice a xs.length c, .func (.func 41) #[] #[], .string t] w fun e w' => e = .returned (.tuple #[.int .i64 (pos (nms (fst xs)) t), .bool (has (nms (fst xs)) t)]) ∧ Below w.heap.size w w' := by
  have hl : (nms (fst xs)).length = xs.length := by simp [nms, fst]
  refine find_m a c xs t _ _ w hn hA (hl ▸ pos_le _ t) (fun i h => ?_) (fun i h hi => ?_) ?_
  · rw [← gs_fst]; exact pos_lt _ t i h
  · rw [← gs_fst]; exact pos_ge _ t hs i h (hl ▸ hi)
  · rw [← gs_fst, ← hl]; exact has_eq _ t hs
theorem finda (a : Option Addr) (c : Nat) (xs : List Ac) (t : ByteArray) (w : World) (hn : xs.length ≤ 1000) (hA : AtL w 4 acc a xs) (hs : srt (nas xs) = true) :
    Calls Try.prog 50 #[.slice a xs.length c, .func (.func 51) #[] #[], .string t] w fun e w' => e = .returned (.tuple #[.int .i64 (pos (nas xs) t), .bool (has (nas xs) t)]) ∧ Below w.heap.size w w' := by
  have hl : (nas xs).length = xs.length := by simp [nas]
  have hg : ∀ i, gs (nas xs) i = (ga xs i).nm := gs_a xs
  refine find_a a c xs t _ _ w hn hA (hl ▸ pos_le _ t) (fun i h => ?_) (fun i h hi => ?_) ?_
  · rw [← hg]; exact pos_lt _ t i h
  · rw [← hg]; exact pos_ge _ t hs i h (hl ▸ hi)
  · rw [← hg, ← hl]; exact has_eq _ t hs

/-! what the calls do -/
abbrev R := List Me × Int
/-- the error of a state and a name -/
def plE (ms : List Me) (t : ByteArray) : Int := if chk ms = 0 then (if has (nms ms) t then 0 else 6) else 8
def plI (ms : List Me) (t : ByteArray) : Int := if plE ms t = 0 then (pos (nms ms) t : Int) else 0
def at_ (ms : List Me) (t : ByteArray) : Me := gm ms (pos (nms ms) t)
def chgF (ms : List Me) (t : ByteArray) (f : Me → Me × Int) : R :=
  if plE ms t = 0 then
    (let r := f (at_ ms t)
     if r.2 = 0 then (if val r.1 then (ms.set (pos (nms ms) t) r.1, 0) else ([], 52)) else ([], r.2))
  else ([], plE ms t)
def fLim (lim : Int) (m : Me) : Me × Int := if mon lim then ({ m with lim := lim }, 0) else (m, 2)
def fSus (is : Bool) (m : Me) : Me × Int := if m.su = is then (m, 20) else ({ m with su := is }, 0)
def fOpen (t : ByteArray) (cl : Bool) (lim : Int) (m : Me) : Me × Int :=
  if m.su then (m, 20) else if !nm t || (cl && (m.ro == 2)) || !mon lim then (m, 2) else if has (nas m.ac) t then (m, 24) else if m.ac.length = 16 then (m, 22)
  else ({ m with ac := m.ac.take (pos (nas m.ac) t) ++ ⟨t, cl, lim, 0⟩ :: m.ac.drop (pos (nas m.ac) t) }, 0)
def fClose (t : ByteArray) (m : Me) : Me × Int :=
  if has (nas m.ac) t then (if (ga m.ac (pos (nas m.ac) t)).us = 0 then ({ m with ac := m.ac.take (pos (nas m.ac) t) ++ m.ac.drop (pos (nas m.ac) t + 1) }, 0) else (m, 20)) else (m, 6)
def addU (l : List Ac) (i : Nat) (n : Int) : List Ac := l.set i { ga l i with us := (ga l i).us + n }
def fUse (t : ByteArray) (n : Int) (m : Me) : Me × Int :=
  if has (nas m.ac) t then
    (if sig n then
      (if m.su && decide (ab (ga m.ac (pos (nas m.ac) t)).us < ab ((ga m.ac (pos (nas m.ac) t)).us + n)) then (m, 20) else ({ m with ac := addU m.ac (pos (nas m.ac) t) n }, 0))
    else (m, 2))
  else (m, 6)
def mvL (m : Me) (fr tt : ByteArray) (n : Int) : List Ac := addU (addU m.ac (pos (nas m.ac) fr) (-n)) (pos (nas m.ac) tt) n
def fMove (fr tt : ByteArray) (n : Int) (m : Me) : Me × Int :=
  if has (nas m.ac) fr && has (nas m.ac) tt then
    (if !decide (fr = tt) && sig n then
      (if m.su && decide (ex m.ac < ex (mvL m fr tt n)) then (m, 20) else ({ m with ac := mvL m fr tt n }, 0))
    else (m, 2))
  else (m, 6)
def newM (t : ByteArray) (ro lim : Int) : Me := ⟨t, ro, false, lim, []⟩
def joinF (ms : List Me) (t : ByteArray) (ro lim : Int) : R :=
  if chk ms = 0 then
    (if val (newM t ro lim) then (if has (nms ms) t then ([], 24) else if ms.length = 64 then ([], 22) else (ms.take (pos (nms ms) t) ++ newM t ro lim :: ms.drop (pos (nms ms) t), 0)) else ([], 2))
  else ([], 8)
def leaveF (ms : List Me) (t : ByteArray) : R :=
  if plE ms t = 0 then (if ex (at_ ms t).ac = 0 then (ms.take (pos (nms ms) t) ++ ms.drop (pos (nms ms) t + 1), 0) else ([], 20)) else ([], plE ms t)
def expoF (ms : List Me) (t : ByteArray) : Int × Int := if plE ms t = 0 then (ex (at_ ms t).ac, 0) else (0, plE ms t)

theorem chk_srt {ms : List Me} (h : chk ms = 0) : ms.length ≤ 64 ∧ srt (nms ms) = true ∧ ∀ m ∈ ms, val m = true := by
  unfold chk at h
  split at h
  · rename_i g
    simp only [Bool.and_eq_true, decide_eq_true_eq, List.all_eq_true] at g
    exact ⟨g.1.1, g.1.2, g.2⟩
  · cases h
theorem chk_cases (ms : List Me) : chk ms = 0 ∨ chk ms = 8 := by
  unfold chk
  split
  · exact .inl rfl
  · exact .inr rfl

set_option maxRecDepth 100000 in
set_option maxHeartbeats 4000000 in
theorem place_any (a : Option Addr) (c : Nat) (xs : List P) (t : ByteArray) (w : World) (hn : xs.length ≤ 1000) (hZ : ∀ x ∈ xs, OkM x.1) (hA : AtM w a xs) :
    Calls Try.prog 37 #[.agg #[.slice a xs.length c], .string t] w fun e w' => e = .returned (.tuple #[.int .i64 (plI (fst xs) t), .int .i64 (plE (fst xs) t)]) ∧ Below w.heap.size w w' := by
  have HA := Lib.hid hA
  have HC := Lib.hid (fun wx (h : AtM wx a xs) => check_any a c xs wx hn hZ h)
  have hbo : Below w.heap.size w (w.alloc (.cells #[.slice a xs.length c] 24)) := (Below.refl _ _).alloc (Nat.le_refl _) _
  have HX := Lib.hid (blk_new w (.cells #[.slice a xs.length c] 24))
  obtain ⟨e, he⟩ : ∃ e, e = plE (fst xs) t := ⟨_, rfl⟩
  obtain ⟨p, hp⟩ : ∃ p, p = pos (nms (fst xs)) t := ⟨_, rfl⟩
  obtain ⟨q, hq⟩ : ∃ q : Int, q = plI (fst xs) t := ⟨_, rfl⟩
  rw [← he, ← hq]
  have hq : q = if e = 0 then (p : Int) else 0 := by rw [hq, he, hp]; rfl
  have HQ := Lib.hid hq
  have HE := Lib.hid he
  have HP := Lib.hid hp
  clear he hp hA hq
  rcases chk_cases (fst xs) with hc | hc
  · have hs := (chk_srt hc).2.1
    have HF := Lib.hid (fun wx (h : AtM wx a xs) => findm a c xs t wx hn h.ms hs)
    rw [hc] at HC
    rw [← HP.out] at HF
    have HE2 := Lib.hid (show e = if has (nms (fst xs)) t then 0 else 6 by rw [HE.out]; unfold plE; rw [if_pos hc])
    generalize has (nms (fst xs)) t = hh at HF HE2
    clear hs hc
    go_enter Try.func37, Try.ntmps37
    go_wp2_with fail
    generalize w.alloc _ = wo at hbo HX ⊢
    refine (HC.out wo (HA.out.below hbo)).mono ?_
    rintro e w1 ⟨rfl, hb1⟩
    have hx1 := blk_keep HX.out hb1
    have x0 := cell_of hx1 0 _ rfl
    have c1 := bt hbo hb1 (Nat.le_refl _)
    clear HX hb1 hbo hx1
    go_wp2_with fail
    refine (HF.out w1 (HA.out.below c1)).mono ?_
    rintro e w2 ⟨rfl, hb2⟩
    have c2 := bt c1 hb2 (Nat.le_refl _)
    cases hh
    · have HE3 := Lib.hid (show e = 6 by rw [HE2.out]; rfl)
      go_wp2
      go_ret2
      exact ⟨ret_tup (by rw [HQ.out, HE3.out]; rfl) (by rw [HE3.out]; rfl), c2⟩
    · have HE3 := Lib.hid (show e = 0 by rw [HE2.out]; rfl)
      go_wp2
      go_ret2
      exact ⟨ret_tup (by rw [HQ.out, HE3.out]; rfl) (by rw [HE3.out]; rfl), c2⟩
  · have HE2 := Lib.hid (show e = 8 by rw [HE.out]; unfold plE; rw [if_neg (by rw [hc]; decide)])
    rw [hc] at HC
    clear hc
    go_enter Try.func37, Try.ntmps37
    go_wp2_with fail
    generalize w.alloc _ = wo at hbo HX ⊢
    refine (HC.out wo (HA.out.below hbo)).mono ?_
    rintro e w1 ⟨rfl, hb1⟩
    have c1 := bt hbo hb1 (Nat.le_refl _)
    go_wp2
    go_ret2
    exact ⟨ret_tup (by rw [HQ.out, HE2.out]; rfl) (by rw [HE2.out]; rfl), c1⟩
end Go.Proofs.Ytoemjpfoddeinaa.Mb
