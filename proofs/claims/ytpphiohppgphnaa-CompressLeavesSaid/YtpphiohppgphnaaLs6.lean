/-
  A slice of structs that begins anywhere in its block (a queue whose front elements are cut off): one element more, one less.
-/
import Derived.Test.YtpphiohppgphnaaLs4
namespace Go.Proofs.Ytpphiohppgphnaa.Ls
open Go.RowKit Go.Proofs.Ytpphiohppgphnaa

def OffL {α : Type} (w : World) (B : Nat) (T : TypeId) (k : Nat) (f : α → List Value) (v : Value) (xs : List α) : Prop :=
  (v = .slice none 0 0 ∧ xs = []) ∨ ∃ g o cap cur, v = .slice (some ⟨g, o, none⟩) xs.length cap ∧ B ≤ g ∧ w.heap[g]? = some (.cells cur T (0, 0)) ∧ xs.length ≤ cap ∧ cap ≤ maxLen ∧ o + cap * k ≤ cur.size ∧ (cur.toList.drop o).take (xs.length * k) = xs.flatMap f
section
variable {α : Type} {w : World} {B : Nat} {T : TypeId} {k : Nat} {f : α → List Value} {v : Value} {xs : List α}
theorem OffL.nil (w : World) (B : Nat) (T : TypeId) (k : Nat) (f : α → List Value) : OffL w B T k f (.slice none 0 0) ([] : List α) := .inl ⟨rfl, rfl⟩
theorem OffL.kept {w' : World} {row : Option Nat} (h : OffL w B T k f v xs) (hg : w.grownBy w' row) (hr : v.ownBlock ≠ row ∨ v.ownBlock = none) : OffL w' B T k f v xs := by
  rcases h with h | ⟨g, o, cap, cur, rfl, h1, h2, h3⟩
  · exact .inl h
  · refine .inr ⟨g, o, cap, cur, rfl, h1, ?_, h3⟩
    rw [hg.block g (Array.getElem?_eq_some_iff.1 h2).1 (fun e => ?_), h2]
    rcases hr with hr | hr
    · exact hr e
    · cases hr
theorem OffL.below {w' : World} (h : OffL w B T k f v xs) (hb : Below w.heap.size w w') : OffL w' B T k f v xs := by
  rcases h with h | ⟨g, o, cap, cur, rfl, h1, h2, h3⟩
  · exact .inl h
  · exact .inr ⟨g, o, cap, cur, rfl, h1, by rw [hb.block g (Array.getElem?_eq_some_iff.1 h2).1, h2], h3⟩
theorem OffL.blk {T' : TypeId} {b : Nat} {cs : Array Value} (h : OffL w B T k f v xs) (h' : w.heap[b]? = some (.cells cs T' (0, 0))) (hT : T ≠ T') : v.ownBlock ≠ some b := by
  rcases h with ⟨rfl, _⟩ | ⟨g, o, cap, cur, rfl, h1, h2, h3⟩
  · intro e; cases e
  · intro e
    cases e
    rw [h2] at h'
    cases h'
    exact hT rfl
theorem OffL.lt (h : OffL w B T k f v xs) : ∀ b, v.ownBlock = some b → B ≤ b ∧ b < w.heap.size := by
  rcases h with ⟨rfl, _⟩ | ⟨g, o, cap, cur, rfl, h1, h2, h3⟩
  · intro b e; cases e
  · intro b e
    cases e
    exact ⟨h1, (Array.getElem?_eq_some_iff.1 h2).1⟩
theorem OffL.len (h : OffL w B T k f v xs) : ∃ a c, v = .slice a xs.length c := by
  rcases h with ⟨rfl, rfl⟩ | ⟨g, o, cap, cur, rfl, _⟩
  · exact ⟨_, _, rfl⟩
  · exact ⟨_, _, rfl⟩
theorem off_cell {g o n : Nat} {cur : Array Value} {L : List Value} (h2 : w.heap[g]? = some (.cells cur T (0, 0))) (h : (cur.toList.drop o).take n = L) (j : Nat) (u : Value) (hu : L[j]? = some u) : w.cell? ⟨g, o + j, none⟩ = some u := by
  subst h
  rw [List.getElem?_take] at hu
  split at hu
  · rw [List.getElem?_drop] at hu
    simp only [World.cell?, h2]
    simpa using hu
  · cases hu
/-- the element at the front -/
theorem OffL.front {x : α} (hk : ∀ x, (f x).length = k) (h : OffL w B T k f v (x :: xs)) : ∃ g o cap, v = .slice (some ⟨g, o, none⟩) (xs.length + 1) cap ∧ xs.length + 1 ≤ cap ∧ cap ≤ maxLen ∧ (∀ j u, (f x)[j]? = some u → w.cell? ⟨g, o + j, none⟩ = some u) ∧
    OffL w B T k f (.slice (some ⟨g, o + k, none⟩) xs.length (cap - 1)) xs ∧ (cap = 1 → OffL w B T k f (.slice (some ⟨g, o, none⟩) xs.length (cap - 1)) xs) := by
  rcases h with ⟨_, h⟩ | ⟨g, o, cap, cur, rfl, h1, h2, h3, h4, h5, h6⟩
  · cases h
  · rw [List.length_cons] at h3 h6
    rw [List.flatMap_cons] at h6
    have hd : (cur.toList.drop (o + k)).take (xs.length * k) = xs.flatMap f := by
      have e := congrArg (List.drop k) h6
      rw [List.drop_take, List.drop_drop, List.drop_left' (hk x)] at e
      rwa [show (xs.length + 1) * k - k = xs.length * k by rw [Nat.add_mul]; omega] at e
    refine ⟨g, o, cap, rfl, h3, h4, fun j u hu => off_cell h2 h6 j u (by rw [List.getElem?_append_left (List.getElem?_eq_some_iff.1 hu).1]; exact hu), ?_, fun hc => ?_⟩
    · refine .inr ⟨g, o + k, cap - 1, cur, rfl, h1, h2, by omega, by omega, ?_, hd⟩
      have : (cap - 1) * k + k = cap * k := by rw [Nat.sub_mul, Nat.one_mul]; have : 1 * k ≤ cap * k := Nat.mul_le_mul_right _ (by omega); omega
      omega
    · have hx : xs = [] := List.length_eq_zero_iff.1 (by omega)
      subst hx
      subst hc
      exact .inr ⟨g, o, 0, cur, rfl, h1, h2, Nat.le_refl _, Nat.zero_le _, by omega, by simp⟩
end
section
variable {P : Program} (w : World)
theorem run_append_off {α : Type} (t ty : TypeId) (T : TypeId) (z : Value) (k bytes : Nat) (ht : P.underlying t = some (.slice T)) (hi : (P.info? T).map (fun i => (i.zero, i.size, i.bytes)) = some (some z, k, bytes)) (hz : z.cells.size = k) (hk0 : 0 < k)
    (B : Nat) (f : α → List Value) (hk : ∀ x, (f x).length = k) (h1 : ∀ x, ∀ u ∈ f x, u.oneCell' = true) (v : Value) (xs : List α) (e : α) (X : Nat) (cs : Array Value) (hown : OffL w B T k f v xs) (hX : w.heap[X]? = some (.cells cs T (0, 0))) (hcs : cs.toList = f e)
    (h63 : xs.length + 1 ≤ maxLen) (hbytes : (xs.length + 1) * bytes ≤ 140737488355328) (hB : B ≤ w.heap.size) :
    ∃ g o cap w', (Builtin.append_ #[t, t] ty #[v, .slice (some ⟨X, 0, none⟩) 1 1]).run P w = .ok (.slice (some ⟨g, o, none⟩) (xs.length + 1) cap) w' ∧ OffL w' B T k f (.slice (some ⟨g, o, none⟩) (xs.length + 1) cap) (xs ++ [e]) ∧ w.grownBy w' v.ownBlock ∧ (v.ownBlock = some g ∨ g = w.heap.size) := by
  obtain ⟨i0, hi0, hz0, hz1, hz2⟩ := info_parts hi
  have hnews : ∀ j u, (f e)[j]? = some u → w.cell? ((⟨X, 0, none⟩ : Addr).add j) = some u := fun j u hu => World.news_of_block hX j u (by rw [hcs]; exact hu)
  have hm : maxLen = 9223372036854775807 := rfl
  rcases hown with ⟨rfl, rfl⟩ | ⟨g, o, cap, cur, rfl, hg1, hg2, hg3, hg4, hg5, hg6⟩
  · have hown : OwnL w B T k f (.slice none 0 0) ([] : List α) := OwnL.nil _ _ _ _ _
    obtain ⟨v', w', hr, ho, hg, _, hat⟩ := run_append_own_at (P := P) w B t ty T i0 z k bytes ht hi0 hz0 hz1 hz2 hz hk0 (.slice none 0 0) 0 [] hown ⟨X, 0, none⟩ 1 1 (f e) (by rw [hk]; omega) hnews (h1 e) (by simpa using h63) (by simpa using hbytes) hB
    rcases ho.2 with ⟨_, h0⟩ | ⟨g, cap, cur, rfl, hg1, hg2, hg3, hg4, hg5, hg6⟩
    · omega
    · refine ⟨g, 0, cap, w', hr, .inr ⟨g, 0, cap, cur, rfl, hg1, hg2, by simpa using hg3, hg4, by rw [hg5]; omega, by simpa using hg6⟩, hg, ?_⟩
      rcases hat with h | h
      · cases h
      · exact .inr (Option.some.inj h)
  · have hlo : (xs.flatMap f).length = xs.length * k := flat_len f k hk xs
    by_cases hroom : xs.length + 1 ≤ cap
    · have hle : (xs.length + 1) * k ≤ cap * k := Nat.mul_le_mul_right _ hroom
      rw [Nat.add_mul, Nat.one_mul] at hle
      have hr := run_append_room_k (P := P) w t ty T k ht (by rw [hi0]; exact congrArg some hz1) g o xs.length cap ⟨X, 0, none⟩ 1 1 (f e) (by rw [hk]; omega) hnews (h1 e) hroom (fun j hj => by
        rw [hk] at hj
        refine ⟨?_, ?_⟩
        · simp only [World.cell?, hg2]
          have hlt : o + xs.length * k + j < cur.size := by omega
          simp [hlt]
        · simp [World.frozen?, hg2])
      refine ⟨g, o, cap, _, hr, .inr ⟨g, o, cap, setA cur (o + xs.length * k) (f e), by rw [List.length_append]; rfl, hg1, heap_setCells (f e) w cur _ hg2, by rw [List.length_append]; exact hroom, hg4, by rw [setA_size]; exact hg5, ?_⟩, grown_setCells w g _ _, .inl rfl⟩
      rw [setA_list _ _ _ (by rw [hk]; omega), List.length_append, List.flatMap_append, ← hg6]
      have hcl : cur.toList.length = cur.size := by simp
      have e0 : (cur.toList.take (o + xs.length * k)).length = o + xs.length * k := by rw [List.length_take, hcl]; omega
      rw [List.append_assoc, List.drop_append_of_le_length (by rw [e0]; omega), List.drop_take, show o + xs.length * k - o = xs.length * k by omega, List.take_append]
      have e1 : ((cur.toList.drop o).take (xs.length * k)).length = xs.length * k := by rw [List.length_take, List.length_drop, hcl]; omega
      rw [e1, List.take_of_length_le (by rw [e1, List.length_singleton, Nat.add_mul]; omega)]
      congr 1
      rw [List.length_singleton, Nat.add_mul, Nat.one_mul, Nat.add_sub_cancel_left, List.take_append_of_le_length (by rw [hk]; omega), List.take_of_length_le (by rw [hk]; omega)]
      simp
    · have hcap : cap < xs.length + 1 := by omega
      have hr := run_append_grow (P := P) w t ty T i0 z ht hi0 hz0 ⟨g, o, none⟩ xs.length cap (xs.flatMap f) (by rw [hlo, hz1]) (fun j u hu => by
        have := off_cell hg2 hg6 j u hu
        rwa [show (⟨g, o, none⟩ : Addr).add j = ⟨g, o + j, none⟩ by unfold Addr.add; split <;> simp_all]) ⟨X, 0, none⟩ 1 1 (f e) (by rw [hk, hz1]; omega) hnews hcap (by omega) (growslice_fits (by omega) (by rw [hz2]; exact hbytes))
      have hge := grownCap_ge w (xs.length + 1) cap T
      have hcm : grownCap w (xs.length + 1) cap T ≤ maxLen := grownCap_le_maxLen w (xs.length + 1) cap T h63
      refine ⟨w.heap.size, 0, _, _, hr, .inr ⟨w.heap.size, 0, _, _, by rw [List.length_append]; rfl, hB, heap_alloc_new w.drew _, by rw [List.length_append]; exact hge, hcm, ?_, ?_⟩, ⟨rfl, rfl, rfl, by simp, fun k0 hk0 _ => Below.heap_alloc w.drew _ k0 hk0⟩, .inr rfl⟩
      · simp only [Array.size_append, List.size_toArray, size_zeroCells, hz, hlo, hk, Nat.zero_add]
        have : (xs.length + 1 + (grownCap w (xs.length + 1) cap T - (xs.length + 1))) * k = grownCap w (xs.length + 1) cap T * k := by congr 1; omega
        rw [Nat.add_mul, Nat.add_mul] at this
        omega
      · simp only [Array.toList_append, List.append_assoc, List.drop_zero, List.length_append, List.flatMap_append]
        rw [← List.append_assoc, List.take_append_of_le_length (by simp [hlo, hk, Nat.add_mul]), List.take_of_length_le (by simp [hlo, hk, Nat.add_mul])]
        simp
/-- the same at a step of a region that draws -/
theorem step_append_off {α : Type} {ops : Array Oper} {o : Oper} {a : Act} {K : Act → World → Prop} {Q : Exit → Act → World → Prop} {E : Prop} (hgd : o.guard = none) (s x : Operand) (t : TypeId)
    (ho : o.op = .call { callee := .builtin .append, args := #[s, x], argTypes := #[t, t] })
    (T : TypeId) (z : Value) (k bytes : Nat) (ht : P.underlying t = some (.slice T)) (hi : (P.info? T).map (fun i => (i.zero, i.size, i.bytes)) = some (some z, k, bytes)) (hz : z.cells.size = k) (hk0 : 0 < k)
    (B : Nat) (f : α → List Value) (hk : ∀ x, (f x).length = k) (h1 : ∀ x, ∀ u ∈ f x, u.oneCell' = true) (v : Value) (xs : List α) (e : α) (X : Nat) (cs : Array Value) (hs : a.eval s = v) (hx : a.eval x = .slice (some ⟨X, 0, none⟩) 1 1)
    (hown : OffL w B T k f v xs) (hX : w.heap[X]? = some (.cells cs T (0, 0))) (hcs : cs.toList = f e)
    (h63 : xs.length + 1 ≤ maxLen) (hbytes : (xs.length + 1) * bytes ≤ 140737488355328) (hB : B ≤ w.heap.size)
    (h : ∀ g o' cap w', OffL w' B T k f (.slice (some ⟨g, o', none⟩) (xs.length + 1) cap) (xs ++ [e]) → w.grownBy w' v.ownBlock → (v.ownBlock = some g ∨ g = w.heap.size) → K (a.put o.dst (.slice (some ⟨g, o', none⟩) (xs.length + 1) cap)) w') :
    if Region.wanted o (yielded ops a.tmps) = true then Oper.wp P o a w K Q else E := by
  obtain ⟨g, o', cap, w', hr, h2, h3, h4⟩ := run_append_off (P := P) w t o.type T z k bytes ht hi hz hk0 B f hk h1 v xs e X cs hown hX hcs h63 hbytes hB
  exact step_append_runL hgd s x t t ho v _ hs hx hr (h _ _ _ _ h2 h3 h4)
end
end Go.Proofs.Ytpphiohppgphnaa.Ls
