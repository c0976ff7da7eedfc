/-
  Compress, plain: trades, ways from party to party, the first cycle; the search in breadth finds it.
-/
import Derived.Lib.Hide
namespace Go.Proofs.Ytpphiohppgphnaa.Cz

/-- a trade -/
structure Tr where
  fr : ByteArray
  to_ : ByteArray
  con : ByteArray
  amt : Int
def t0 : Tr := ⟨⟨#[]⟩, ⟨#[]⟩, ⟨#[]⟩, 0⟩
def gt (l : List Tr) (i : Nat) : Tr := l.getD i t0

section
variable (l : List Tr) (c T : ByteArray)
/-- trade k of the contract is owed by p -/
def Out (p : ByteArray) (k : Nat) : Prop := k < l.length ∧ (gt l k).con = c ∧ (gt l k).fr = p
/-- a party leads to T by n trades of the contract -/
def Rch : Nat → ByteArray → Prop
  | 0, p => p = T
  | n + 1, p => ∃ k, Out l c p k ∧ Rch n (gt l k).to_
/-- at least a trades away -/
def Away (p : ByteArray) (a : Nat) : Prop := ∀ n, Rch l c T n p → a ≤ n
/-- just d trades away -/
def Dist (p : ByteArray) (d : Nat) : Prop := Rch l c T d p ∧ Away l c T p d
/-- the least of the shortest ways -/
inductive Grd : ByteArray → Nat → List Nat → Prop
  | nil : Grd T 0 []
  | cons (p : ByteArray) (d k : Nat) (tr : List Nat) (ho : Out l c p k) (hd : Dist l c T (gt l k).to_ d) (hk : ∀ j, j < k → Out l c p j → ¬ Rch l c T d (gt l j).to_) (h : Grd (gt l k).to_ d tr) : Grd p (d + 1) (k :: tr)
end
section
variable {l : List Tr} {c T : ByteArray}
theorem Away.mono {p : ByteArray} {a b : Nat} (h : Away l c T p a) (hb : b ≤ a) : Away l c T p b := fun n hn => Nat.le_trans hb (h n hn)
theorem Dist.uniq {p : ByteArray} {a b : Nat} (h : Dist l c T p a) (k : Dist l c T p b) : a = b := Nat.le_antisymm (h.2 b k.1) (k.2 a h.1)
theorem away_child {p : ByteArray} {a k : Nat} (h : Away l c T p (a + 1)) (ho : Out l c p k) : Away l c T (gt l k).to_ a := fun n hn => by
  have := h (n + 1) ⟨k, ho, hn⟩
  omega
theorem away_up {p : ByteArray} {a : Nat} (h : Away l c T p a) (hn : ¬ Rch l c T a p) : Away l c T p (a + 1) := fun n hr => by
  have := h n hr
  rcases Nat.eq_or_lt_of_le this with e | e
  · subst e
    exact absurd hr hn
  · exact e
theorem away_ne {p : ByteArray} {a : Nat} (h : Away l c T p (a + 1)) : p ≠ T := fun e => by
  have := h 0 e
  omega
theorem least_of {P : Nat → Prop} {n : Nat} (h : P n) : ∃ m, P m ∧ ∀ j, j < m → ¬ P j := by
  induction n using Nat.strongRecOn with
  | _ n ih =>
    by_cases g : ∃ j, j < n ∧ P j
    · obtain ⟨j, hj, hp⟩ := g
      exact ih j hj hp
    · exact ⟨n, h, fun j hj hp => g ⟨j, hj, hp⟩⟩
theorem dist_of {p : ByteArray} {n : Nat} (h : Rch l c T n p) : ∃ d, Dist l c T p d := by
  obtain ⟨m, h1, h2⟩ := least_of (P := fun n => Rch l c T n p) h
  exact ⟨m, h1, fun n hn => by
    rcases Nat.lt_or_ge n m with g | g
    · exact absurd hn (h2 n g)
    · exact g⟩
theorem grd_of {d : Nat} : ∀ {p : ByteArray}, Dist l c T p d → ∃ tr, Grd l c T p d tr := by
  induction d with
  | zero => intro p h; obtain rfl : p = T := h.1; exact ⟨[], .nil⟩
  | succ d ih =>
    intro p h
    obtain ⟨k0, h0⟩ := h.1
    obtain ⟨k, ⟨h1, h2⟩, h3⟩ := least_of (P := fun k => Out l c p k ∧ Rch l c T d (gt l k).to_) h0
    have hd : Dist l c T (gt l k).to_ d := ⟨h2, away_child h.2 h1⟩
    obtain ⟨tr, ht⟩ := ih hd
    exact ⟨k :: tr, .cons p d k tr h1 hd (fun j hj ho hr => h3 j hj ⟨ho, hr⟩) ht⟩
theorem Grd.uniq {p : ByteArray} {d : Nat} {a : List Nat} (h : Grd l c T p d a) : ∀ {b : List Nat}, Grd l c T p d b → a = b := by
  induction h with
  | nil => intro b h; cases h; rfl
  | cons p d k tr ho hd hk h ih =>
    intro b hb
    cases hb with
    | cons _ _ k' tr' ho' hd' hk' h' =>
      have e : k = k' := by
        rcases Nat.lt_trichotomy k k' with g | g | g
        · exact absurd hd.1 (hk' k g ho)
        · exact g
        · exact absurd hd'.1 (hk k' g ho')
      subst e
      rw [ih h']
theorem Grd.len {p : ByteArray} {d : Nat} {a : List Nat} (h : Grd l c T p d a) : a.length = d := by
  induction h with
  | nil => rfl
  | cons p d k tr ho hd hk h ih => rw [List.length_cons, ih]
theorem Grd.lt {p : ByteArray} {d : Nat} {a : List Nat} (h : Grd l c T p d a) : ∀ k ∈ a, k < l.length := by
  induction h with
  | nil => intro k hk; cases hk
  | cons p d k tr ho hd hk h ih =>
    intro j hj
    rcases List.mem_cons.1 hj with e | e
    · rw [e]; exact ho.1
    · exact ih j e
end

/-- the first cycle -/
inductive First (l : List Tr) : List Nat → Prop
  | none (h : ∀ i, i < l.length → ∀ n, ¬ Rch l (gt l i).con (gt l i).fr n (gt l i).to_) : First l []
  | some (i d : Nat) (tr : List Nat) (hi : i < l.length) (hd : Dist l (gt l i).con (gt l i).fr (gt l i).to_ d) (hg : Grd l (gt l i).con (gt l i).fr (gt l i).to_ d tr) (h : ∀ j, j < i → ∀ n, ¬ Rch l (gt l j).con (gt l j).fr n (gt l j).to_) : First l (i :: tr)
theorem first_exists (l : List Tr) : ∃ r, First l r := by
  by_cases h : ∃ i, i < l.length ∧ ∃ n, Rch l (gt l i).con (gt l i).fr n (gt l i).to_
  · obtain ⟨i0, h0⟩ := h
    obtain ⟨i, ⟨hi, n, hn⟩, hl⟩ := least_of (P := fun i => i < l.length ∧ ∃ n, Rch l (gt l i).con (gt l i).fr n (gt l i).to_) h0
    obtain ⟨d, hd⟩ := dist_of hn
    obtain ⟨tr, ht⟩ := grd_of hd
    exact ⟨_, .some i d tr hi hd ht fun j hj n hr => hl j hj ⟨by omega, n, hr⟩⟩
  · exact ⟨[], .none fun i hi n hn => h ⟨i, hi, n, hn⟩⟩
theorem First.uniq {l : List Tr} {a b : List Nat} (h : First l a) (k : First l b) : a = b := by
  cases h with
  | none h =>
    cases k with
    | none _ => rfl
    | some i d tr hi hd hg k => exact absurd hd.1 (h i hi d)
  | some i d tr hi hd hg h =>
    cases k with
    | none k => exact absurd hd.1 (k i hi d)
    | some i' d' tr' hi' hd' hg' h' =>
      have e : i = i' := by
        rcases Nat.lt_trichotomy i i' with g | g | g
        · exact absurd hd.1 (h' i g d)
        · exact g
        · exact absurd hd'.1 (h i' g d')
      subst e
      have := hd.uniq hd'
      subst this
      rw [hg.uniq hg']

/-- what the search from a trade returns: the way's trades behind the first one; none: there is no way -/
inductive Back (l : List Tr) (i : Nat) : List Nat → Prop
  | none (h : ∀ n, ¬ Rch l (gt l i).con (gt l i).fr n (gt l i).to_) : Back l i []
  | some (d : Nat) (tr : List Nat) (hd : Dist l (gt l i).con (gt l i).fr (gt l i).to_ d) (hg : Grd l (gt l i).con (gt l i).fr (gt l i).to_ d tr) : Back l i (i :: tr)
theorem back_exists (l : List Tr) (i : Nat) : ∃ r, Back l i r := by
  by_cases h : ∃ n, Rch l (gt l i).con (gt l i).fr n (gt l i).to_
  · obtain ⟨n, hn⟩ := h
    obtain ⟨d, hd⟩ := dist_of hn
    obtain ⟨tr, ht⟩ := grd_of hd
    exact ⟨_, .some d tr hd ht⟩
  · exact ⟨[], .none fun n hn => h ⟨n, hn⟩⟩

/-- the ways in the queue: parties and the trades that lead to them -/
abbrev Ways := List (ByteArray × List Nat)
section
variable (l : List Tr) (c T : ByteArray)
/-- the way that the search is to find goes on in the queue, e trades before its end -/
def On (g : List Nat) (e : Nat) (q : Ways) (seen : List ByteArray) : Prop := 1 ≤ e ∧ ∃ q1 p tr q2 rest, q = q1 ++ (p, tr) :: q2 ∧ (Dist l c T p e ∧ Grd l c T p e rest) ∧ tr ++ rest = g ∧ (∀ w ∈ q1, Away l c T w.1 (e + 1)) ∧ (∀ w ∈ q2, Away l c T w.1 e) ∧ ∀ s ∈ seen, Away l c T s e
/-- at the queue's loop; g = [] where there is no way -/
def Inv (g : List Nat) (q : Ways) (seen : List ByteArray) : Prop :=
  (g = [] ∧ ∀ w ∈ q, ∀ n, ¬ Rch l c T n w.1) ∨ ∃ e, On l c T g e q seen
/-- within the loop over the trades, the way w taken from the queue, k trades done -/
def Inn (g : List Nat) (w : ByteArray × List Nat) (k : Nat) (q : Ways) (seen : List ByteArray) : Prop :=
  (g = [] ∧ (∀ n, ¬ Rch l c T n w.1) ∧ ∀ w ∈ q, ∀ n, ¬ Rch l c T n w.1) ∨ (∃ e, On l c T g e q seen ∧ Away l c T w.1 (e + 1)) ∨
  (∃ k0 e rest, k ≤ k0 ∧ w.2 ++ k0 :: rest = g ∧ Out l c w.1 k0 ∧ Dist l c T (gt l k0).to_ e ∧ Grd l c T (gt l k0).to_ e rest ∧ (∀ j, j < k0 → Out l c w.1 j → ¬ Rch l c T e (gt l j).to_) ∧ Away l c T w.1 (e + 1) ∧ (∀ w ∈ q, Away l c T w.1 (e + 1)) ∧ ∀ s ∈ seen, Away l c T s (e + 1))
end
section
variable {l : List Tr} {c T : ByteArray} {g : List Nat} {w : ByteArray × List Nat} {q : Ways} {seen : List ByteArray} {k : Nat}
theorem grd_dist {p : ByteArray} {d : Nat} {a : List Nat} (h : Grd l c T p d a) : Rch l c T d p := by
  induction h with
  | nil => rfl
  | cons p d k tr ho hd hk h ih => exact ⟨k, ho, ih⟩
theorem inv_start {i : Nat} {r : List Nat} (h : Back l i r) (hne : (gt l i).fr ≠ (gt l i).to_) : Inv l (gt l i).con (gt l i).fr r [((gt l i).to_, [i])] [(gt l i).to_] := by
  cases h with
  | none h => exact .inl ⟨rfl, fun w hw => by rw [List.mem_singleton.1 hw]; exact h⟩
  | some d tr hd hg =>
    refine .inr ⟨d, ?_, [], _, [i], [], tr, rfl, ⟨hd, hg⟩, rfl, (fun w hw => by cases hw), (fun w hw => by cases hw), fun s hs => by rw [List.mem_singleton.1 hs]; exact hd.2⟩
    rcases Nat.eq_zero_or_pos d with e | e
    · subst e
      exact absurd hd.1.symm hne
    · exact e
/-- a queue without ways: there is no way -/
theorem inv_empty (h : Inv l c T g [] seen) : g = [] := by
  rcases h with ⟨h, _⟩ | ⟨e, _, q1, p, tr, q2, rest, hq, _⟩
  · exact h
  · have := congrArg List.length hq
    simp at this
theorem inv_pop (h : Inv l c T g (w :: q) seen) : Inn l c T g w 0 q seen := by
  rcases h with ⟨h1, h2⟩ | ⟨e, he, q1, p, tr, q2, rest, hq, ⟨hp, hg⟩, ht, h1, h2, h3⟩
  · exact .inl ⟨h1, h2 w (by simp), fun v hv => h2 v (by simp [hv])⟩
  · cases q1 with
    | nil =>
      rw [List.nil_append] at hq
      injection hq with e1 e2
      subst e1
      subst e2
      cases hg with
      | nil => omega
      | cons _ d k0 tr' ho hd hk hg' => exact .inr (.inr ⟨k0, d, tr', Nat.zero_le _, ht, ho, hd, hg', hk, hp.2, h2, h3⟩)
    | cons v q1 =>
      rw [List.cons_append] at hq
      injection hq with e1 e2
      subst e1
      exact .inr (.inl ⟨e, ⟨he, q1, p, tr, q2, rest, e2, ⟨hp, hg⟩, ht, fun v hv => h1 v (by simp [hv]), h2, h3⟩, h1 w (by simp)⟩)
/-- a trade that is not of this party -/
theorem inn_skip (h : Inn l c T g w k q seen) (ho : ¬ Out l c w.1 k) : Inn l c T g w (k + 1) q seen := by
  rcases h with h | h | ⟨k0, e, rest, h0, h1, h2, h3⟩
  · exact .inl h
  · exact .inr (.inl h)
  · refine .inr (.inr ⟨k0, e, rest, ?_, h1, h2, h3⟩)
    rcases Nat.eq_or_lt_of_le h0 with g | g
    · subst g
      exact absurd h2 ho
    · exact g
/-- the trade that ends the way -/
theorem inn_hit (h : Inn l c T g w k q seen) (ho : Out l c w.1 k) (ht : (gt l k).to_ = T) : g = w.2 ++ [k] := by
  have h1 : Rch l c T 1 w.1 := ⟨k, ho, ht⟩
  rcases h with ⟨_, h, _⟩ | ⟨e, ⟨he, _⟩, h⟩ | ⟨k0, e, rest, h0, h2, _, _, h4, h5, h6, _⟩
  · exact absurd h1 (h 1)
  · have := h 1 h1
    omega
  · have := h6 1 h1
    obtain rfl : e = 0 := by omega
    rcases Nat.eq_or_lt_of_le h0 with g | g
    · subst g
      have := h4.len
      obtain rfl : rest = [] := List.length_eq_zero_iff.1 this
      exact h2.symm
    · exact absurd ht (h5 k g ho)
/-- a party that is known already -/
theorem inn_seen (h : Inn l c T g w k q seen) (_ho : Out l c w.1 k) (hs : (gt l k).to_ ∈ seen) : Inn l c T g w (k + 1) q seen := by
  rcases h with h | h | ⟨k0, e, rest, h0, h1, h2, h3, h4, h5, h6, h7, h8⟩
  · exact .inl h
  · exact .inr (.inl h)
  · refine .inr (.inr ⟨k0, e, rest, ?_, h1, h2, h3, h4, h5, h6, h7, h8⟩)
    rcases Nat.eq_or_lt_of_le h0 with g | g
    · subst g
      have := h8 _ hs _ h3.1
      omega
    · exact g
/-- a new party -/
theorem inn_push (h : Inn l c T g w k q seen) (ho : Out l c w.1 k) (ht : (gt l k).to_ ≠ T) : Inn l c T g w (k + 1) (q ++ [((gt l k).to_, w.2 ++ [k])]) (seen ++ [(gt l k).to_]) := by
  have two : ∀ {α : Type} {P : α → Prop} {a : List α} {x : α}, (∀ y ∈ a, P y) → P x → ∀ y ∈ a ++ [x], P y := fun ha hx y hy => by
    rcases List.mem_append.1 hy with g | g
    · exact ha y g
    · rw [List.mem_singleton.1 g]; exact hx
  rcases h with ⟨h1, h2, h3⟩ | ⟨e, ⟨he, q1, p, tr, q2, rest, rfl, hp, htr, h1, h2, h3⟩, h⟩ | ⟨k0, e, rest, h0, h1, h2, h3, h4, h5, h6, h7, h8⟩
  · exact .inl ⟨h1, h2, two h3 fun n hn => h2 (n + 1) ⟨k, ho, hn⟩⟩
  · exact .inr (.inl ⟨e, ⟨he, q1, p, tr, q2 ++ [((gt l k).to_, w.2 ++ [k])], rest, by simp, hp, htr, h1, two h2 (away_child h ho), two h3 (away_child h ho)⟩, h⟩)
  · rcases Nat.eq_or_lt_of_le h0 with g | g
    · subst g
      refine .inr (.inl ⟨e, ⟨?_, q, _, w.2 ++ [k], [], rest, rfl, ⟨h3, h4⟩, by simpa using h1, h7, (fun v hv => by cases hv), two (fun s hs => (h8 s hs).mono (Nat.le_succ _)) h3.2⟩, h6⟩)
      rcases Nat.eq_zero_or_pos e with z | z
      · subst z
        exact absurd h3.1 ht
      · exact z
    · have ha : Away l c T (gt l k).to_ (e + 1) := away_up (away_child h6 ho) (h5 k g ho)
      exact .inr (.inr ⟨k0, e, rest, g, h1, h2, h3, h4, h5, h6, two h7 ha, two h8 ha⟩)
theorem inn_end (h : Inn l c T g w l.length q seen) : Inv l c T g q seen := by
  rcases h with ⟨h1, _, h3⟩ | ⟨e, h, _⟩ | ⟨k0, e, rest, h0, h1, h2, _⟩
  · exact .inl ⟨h1, h3⟩
  · exact .inr ⟨e, h⟩
  · have := h2.1
    omega
end

/-- is a party among some? -/
def inS (seen : List ByteArray) (p : ByteArray) : Bool := seen.any fun s => decide (s = p)
theorem inS_iff (seen : List ByteArray) (p : ByteArray) : inS seen p = true ↔ p ∈ seen := by
  unfold inS
  rw [List.any_eq_true]
  exact ⟨fun ⟨x, h1, h2⟩ => by rw [← of_decide_eq_true h2]; exact h1, fun h => ⟨p, h, decide_eq_true rfl⟩⟩
theorem inS_snoc (seen : List ByteArray) (x p : ByteArray) : inS (seen ++ [x]) p = (inS seen p || decide (x = p)) := by unfold inS; simp
/-- trades whose To is not known yet -/
def fresh (l : List Tr) (seen : List ByteArray) : Nat := (l.filter fun x => !inS seen x.to_).length
theorem fresh_le (l : List Tr) (seen : List ByteArray) : fresh l seen ≤ l.length := List.length_filter_le _ _
theorem fresh_mono (l : List Tr) (seen : List ByteArray) (p : ByteArray) : fresh l (seen ++ [p]) ≤ fresh l seen := by
  unfold fresh
  rw [← List.countP_eq_length_filter, ← List.countP_eq_length_filter]
  refine List.countP_mono_left fun y _ hy => ?_
  rw [inS_snoc] at hy
  cases h : inS seen y.to_
  · rfl
  · rw [h] at hy
    cases hy
theorem fresh_at (l : List Tr) (seen : List ByteArray) (x : Tr) (hm : x ∈ l) (hs : inS seen x.to_ = false) : fresh l (seen ++ [x.to_]) + 1 ≤ fresh l seen := by
  induction l with
  | nil => cases hm
  | cons y m ih =>
    rcases List.mem_cons.1 hm with e | e
    · subst e
      unfold fresh
      rw [List.filter_cons_of_neg (by simp [inS_snoc]), List.filter_cons_of_pos (by simp [hs]), List.length_cons]
      exact Nat.succ_le_succ (fresh_mono m seen _)
    · have h1 := ih e
      have h2 := fresh_mono m seen x.to_
      unfold fresh at h1 h2 ⊢
      rw [List.filter_cons, List.filter_cons, inS_snoc]
      cases inS seen y.to_ <;> cases decide (x.to_ = y.to_) <;> simp <;> omega
theorem gt_mem (l : List Tr) (k : Nat) (hk : k < l.length) : gt l k ∈ l := by unfold gt; rw [List.getD_eq_getElem?_getD, List.getElem?_eq_getElem hk]; exact List.getElem_mem _
end Go.Proofs.Ytpphiohppgphnaa.Cz
