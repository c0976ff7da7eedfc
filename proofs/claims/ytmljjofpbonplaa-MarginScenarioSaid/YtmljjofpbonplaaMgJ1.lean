/-
  Margin: joining portfolios, plain: the merge of two sorted lists, and what the reference does.
-/
import Derived.Test.YtmljjofpbonplaaNm2
namespace Go.Proofs.Ytmljjofpbonplaa.Mg
open Go.RowKit Go.Proofs.Ytmljjofpbonplaa Go.Proofs.Ytmljjofpbonplaa.Nm

/-- a portfolio as a list -/
abbrev PL := List (ByteArray × Int)
/-- the merge of two portfolios -/
def mg : PL → PL → PL
  | [], ys => ys
  | x :: xs, [] => x :: xs
  | x :: xs, y :: ys => if lt x.1 y.1 = true then x :: mg xs (y :: ys) else if lt y.1 x.1 = true then y :: mg (x :: xs) ys else (x.1, x.2 + y.2) :: mg xs ys
termination_by xs ys => xs.length + ys.length
theorem mg_nil (xs : PL) : mg xs [] = xs := by cases xs <;> simp [mg]
theorem mg_nil' (ys : PL) : mg [] ys = ys := by simp [mg]
theorem mg_lt (x y : ByteArray × Int) (xs ys : PL) (h : lt x.1 y.1 = true) : mg (x :: xs) (y :: ys) = x :: mg xs (y :: ys) := by rw [mg, if_pos h]
theorem mg_gt (x y : ByteArray × Int) (xs ys : PL) (h : lt y.1 x.1 = true) : mg (x :: xs) (y :: ys) = y :: mg (x :: xs) ys := by rw [mg, if_neg (by rw [lt_asymm h]; decide), if_pos h]
theorem mg_eq (x y : ByteArray × Int) (xs ys : PL) (h : x.1 = y.1) : mg (x :: xs) (y :: ys) = (x.1, x.2 + y.2) :: mg xs ys := by rw [mg, h, lt_irrefl]; simp
/-- names strictly increasing -/
def Srt : PL → Prop
  | [] => True
  | x :: xs => (∀ y ∈ xs, lt x.1 y.1 = true) ∧ Srt xs
theorem three (a b : ByteArray) : lt a b = true ∨ lt b a = true ∨ a = b := by
  cases h : lt a b
  · cases k : lt b a
    · exact .inr (.inr (lt_total h k))
    · exact .inr (.inl rfl)
  · exact .inl rfl
theorem mg_comm (xs ys : PL) : mg xs ys = mg ys xs := by
  fun_induction mg xs ys with
  | case1 ys => rw [mg_nil]
  | case2 x xs => rw [mg_nil']
  | case3 x xs y ys h ih => rw [mg_gt _ _ _ _ h, ih]
  | case4 x xs y ys h k ih => rw [mg_lt _ _ _ _ k, ih]
  | case5 x xs y ys h k ih =>
    have e : x.1 = y.1 := lt_total (by simpa using h) (by simpa using k)
    rw [mg_eq _ _ _ _ e.symm, ih, e, Int.add_comm]
theorem mg_mem {xs ys : PL} {z : ByteArray × Int} (h : z ∈ mg xs ys) : (∃ x ∈ xs, x.1 = z.1) ∨ (∃ y ∈ ys, y.1 = z.1) := by
  fun_induction mg xs ys with
  | case1 ys => exact .inr ⟨z, h, rfl⟩
  | case2 x xs => exact .inl ⟨z, h, rfl⟩
  | case3 x xs y ys k ih =>
    rcases List.mem_cons.1 h with rfl | h
    · exact .inl ⟨_, List.mem_cons_self, rfl⟩
    · rcases ih h with ⟨u, hu, e⟩ | ⟨u, hu, e⟩
      · exact .inl ⟨u, List.mem_cons_of_mem _ hu, e⟩
      · exact .inr ⟨u, hu, e⟩
  | case4 x xs y ys k k2 ih =>
    rcases List.mem_cons.1 h with rfl | h
    · exact .inr ⟨_, List.mem_cons_self, rfl⟩
    · rcases ih h with ⟨u, hu, e⟩ | ⟨u, hu, e⟩
      · exact .inl ⟨u, hu, e⟩
      · exact .inr ⟨u, List.mem_cons_of_mem _ hu, e⟩
  | case5 x xs y ys k k2 ih =>
    rcases List.mem_cons.1 h with rfl | h
    · exact .inl ⟨_, List.mem_cons_self, rfl⟩
    · rcases ih h with ⟨u, hu, e⟩ | ⟨u, hu, e⟩
      · exact .inl ⟨u, List.mem_cons_of_mem _ hu, e⟩
      · exact .inr ⟨u, List.mem_cons_of_mem _ hu, e⟩
theorem mg_srt {xs ys : PL} (hx : Srt xs) (hy : Srt ys) : Srt (mg xs ys) := by
  fun_induction mg xs ys with
  | case1 ys => exact hy
  | case2 x xs => exact hx
  | case3 x xs y ys k ih =>
    refine ⟨fun z hz => ?_, ih hx.2 hy⟩
    rcases mg_mem hz with ⟨u, hu, e⟩ | ⟨u, hu, e⟩
    · rw [← e]; exact hx.1 u hu
    · rw [← e]
      rcases List.mem_cons.1 hu with rfl | hu
      · exact k
      · exact lt_trans k (hy.1 u hu)
  | case4 x xs y ys k k2 ih =>
    refine ⟨fun z hz => ?_, ih hx hy.2⟩
    rcases mg_mem hz with ⟨u, hu, e⟩ | ⟨u, hu, e⟩
    · rw [← e]
      rcases List.mem_cons.1 hu with rfl | hu
      · exact k2
      · exact lt_trans k2 (hx.1 u hu)
    · rw [← e]; exact hy.1 u hu
  | case5 x xs y ys k k2 ih =>
    have e0 : x.1 = y.1 := lt_total (by simpa using k) (by simpa using k2)
    refine ⟨fun z hz => ?_, ih hx.2 hy.2⟩
    rcases mg_mem hz with ⟨u, hu, e⟩ | ⟨u, hu, e⟩
    · rw [← e]; exact hx.1 u hu
    · rw [← e, e0]; exact hy.1 u hu
theorem mg_len (xs ys : PL) : (mg xs ys).length ≤ xs.length + ys.length := by
  fun_induction mg xs ys with
  | case1 ys => simp
  | case2 x xs => simp
  | case3 x xs y ys k ih => simp only [List.length_cons] at *; omega
  | case4 x xs y ys k k2 ih => simp only [List.length_cons] at *; omega
  | case5 x xs y ys k k2 ih => simp only [List.length_cons] at *; omega
/-- quantities of a merge are sums of two -/
theorem mg_bd {xs ys : PL} {B : Int} (hB : 0 ≤ B) (hx : ∀ x ∈ xs, -B ≤ x.2 ∧ x.2 ≤ B) (hy : ∀ y ∈ ys, -B ≤ y.2 ∧ y.2 ≤ B) : ∀ z ∈ mg xs ys, -(2 * B) ≤ z.2 ∧ z.2 ≤ 2 * B := by
  fun_induction mg xs ys with
  | case1 ys => exact fun z hz => by have := hy z hz; omega
  | case2 x xs => exact fun z hz => by have := hx z hz; omega
  | case3 x xs y ys k ih =>
    intro z hz
    rcases List.mem_cons.1 hz with rfl | hz
    · have := hx _ List.mem_cons_self; omega
    · exact ih (fun u hu => hx u (List.mem_cons_of_mem _ hu)) hy z hz
  | case4 x xs y ys k k2 ih =>
    intro z hz
    rcases List.mem_cons.1 hz with rfl | hz
    · have := hy _ List.mem_cons_self; omega
    · exact ih hx (fun u hu => hy u (List.mem_cons_of_mem _ hu)) z hz
  | case5 x xs y ys k k2 ih =>
    intro z hz
    rcases List.mem_cons.1 hz with rfl | hz
    · have := hx _ List.mem_cons_self
      have := hy _ List.mem_cons_self
      show _ ≤ x.2 + y.2 ∧ x.2 + y.2 ≤ _
      omega
    · exact ih (fun u hu => hx u (List.mem_cons_of_mem _ hu)) (fun u hu => hy u (List.mem_cons_of_mem _ hu)) z hz

/-! ### the reference's way -/
/-- what the reference's add computes -/
def addF (d : Bool) (p : ByteArray × Int) : PL → PL
  | [] => if d then [] else [p]
  | x :: xs => if x.1 = p.1 then (x.1, x.2 + p.2) :: addF true p xs else if !d && lt p.1 x.1 then p :: x :: addF true p xs else x :: addF d p xs
theorem addF_true {p : ByteArray × Int} {xs : PL} (h : ∀ x ∈ xs, x.1 ≠ p.1) : addF true p xs = xs := by
  induction xs with
  | nil => rfl
  | cons x xs ih =>
    rw [addF, if_neg (h x List.mem_cons_self), ih (fun u hu => h u (List.mem_cons_of_mem _ hu))]
    simp
theorem lt_ne {a b : ByteArray} (h : lt a b = true) : a ≠ b := fun e => by rw [e, lt_irrefl] at h; cases h
theorem mg_add {xs : PL} (y : ByteArray × Int) {ys : PL} (hx : Srt xs) (hy : Srt (y :: ys)) : mg xs (y :: ys) = mg (addF false y xs) ys := by
  have one : ∀ (q : ByteArray × Int) (l : PL), q.1 = y.1 → mg (q :: l) ys = q :: mg l ys := fun q l e => by
    cases ys with
    | nil => rw [mg_nil, mg_nil]
    | cons z zs => exact mg_lt _ _ _ _ (by rw [e]; exact hy.1 z List.mem_cons_self)
  induction xs with
  | nil =>
    rw [mg_nil']
    show y :: ys = mg [y] ys
    rw [one y [] rfl, mg_nil']
  | cons x xs ih =>
    rcases three x.1 y.1 with h | h | h
    · rw [mg_lt _ _ _ _ h, ih hx.2, addF, if_neg (lt_ne h), lt_asymm h]
      show _ = mg (x :: addF false y xs) ys
      cases ys with
      | nil => rw [mg_nil, mg_nil]
      | cons z zs => rw [mg_lt x z _ _ (lt_trans h (hy.1 z List.mem_cons_self))]
    · rw [mg_gt _ _ _ _ h, addF, if_neg (fun e => lt_ne h e.symm), h]
      rw [addF_true (fun u hu e => by have := lt_trans h (hx.1 u hu); rw [e, lt_irrefl] at this; cases this)]
      show _ = mg (y :: x :: xs) ys
      rw [one y _ rfl]
    · rw [mg_eq _ _ _ _ h, addF, if_pos h, addF_true (fun u hu e => by have := hx.1 u hu; rw [h, e, lt_irrefl] at this; cases this)]
      rw [one (x.1, x.2 + y.2) xs h]
theorem addF_mem {d : Bool} {p z : ByteArray × Int} {xs : PL} (h : z ∈ addF d p xs) : z.1 = p.1 ∨ ∃ x ∈ xs, x.1 = z.1 := by
  induction xs generalizing d with
  | nil =>
    cases d
    · rcases List.mem_singleton.1 h with rfl
      exact .inl rfl
    · cases h
  | cons x xs ih =>
    rw [addF] at h
    split at h
    · rcases List.mem_cons.1 h with rfl | h
      · exact .inr ⟨x, List.mem_cons_self, rfl⟩
      · rcases ih h with e | ⟨u, hu, e⟩
        · exact .inl e
        · exact .inr ⟨u, List.mem_cons_of_mem _ hu, e⟩
    · split at h
      · rcases List.mem_cons.1 h with rfl | h
        · exact .inl rfl
        · rcases List.mem_cons.1 h with rfl | h
          · exact .inr ⟨z, List.mem_cons_self, rfl⟩
          · rcases ih h with e | ⟨u, hu, e⟩
            · exact .inl e
            · exact .inr ⟨u, List.mem_cons_of_mem _ hu, e⟩
      · rcases List.mem_cons.1 h with rfl | h
        · exact .inr ⟨z, List.mem_cons_self, rfl⟩
        · rcases ih h with e | ⟨u, hu, e⟩
          · exact .inl e
          · exact .inr ⟨u, List.mem_cons_of_mem _ hu, e⟩
theorem addF_srt {p : ByteArray × Int} {xs : PL} (h : Srt xs) : Srt (addF false p xs) := by
  have := mg_add p (ys := []) h ⟨(fun y hy => by cases hy), trivial⟩
  rw [mg_nil] at this
  rw [← this]
  exact mg_srt h ⟨(fun y hy => by cases hy), trivial⟩
theorem mg_fold {xs ys : PL} (hx : Srt xs) (hy : Srt ys) : ys.foldl (fun l p => addF false p l) xs = mg xs ys := by
  induction ys generalizing xs with
  | nil => rw [mg_nil]; rfl
  | cons y ys ih => rw [List.foldl_cons, ih (addF_srt hx) hy.2, mg_add y hx hy]
theorem fold_snoc (xs ys : PL) (k : Nat) (hk : k < ys.length) : (ys.take (k + 1)).foldl (fun l p => addF false p l) xs = addF false ys[k] ((ys.take k).foldl (fun l p => addF false p l) xs) := by
  rw [List.take_succ_eq_append_getElem hk, List.foldl_append]
  rfl

/-- the quantities within the limit -/
def inQ (q : Int) : Bool := decide (-1048576 ≤ q ∧ q ≤ 1048576)
/-- the join, without its error: what is not 0 -/
def jn (xs ys : PL) : PL := (mg xs ys).filter fun z => z.2 != 0
end Go.Proofs.Ytmljjofpbonplaa.Mg
