/-
  Collateral, plain: the value when units of a holding are taken away.
-/
import Derived.Test.YtbfgnkakcnhojaaCo9
import Derived.Test.YtbfgnkakcnhojaaCoI
namespace Go.Proofs.Ytbfgnkakcnhojaa.Co
open Go.RowKit Go.Proofs.Ytbfgnkakcnhojaa Go.Proofs.Ytbfgnkakcnhojaa.Ls Go.Proofs.Ytbfgnkakcnhojaa.Kb
open Go.Proofs.Ytbfgnkakcnhojaa.Nm hiding ret_bool ret_int

/-- the i-th holding with v units -/
def pu (L : List (ByteArray × Int)) (i : Nat) (v : Int) : List (ByteArray × Int) := L.take i ++ ((gi L i).1, v) :: L.drop (i + 1)
theorem gi_get (L : List (ByteArray × Int)) (i : Nat) : gi L i = (L[i]?).getD i0 := by unfold gi; rw [List.getD_eq_getElem?_getD]
theorem pu_len (L : List (ByteArray × Int)) (i : Nat) (hi : i < L.length) (v : Int) : (pu L i v).length = L.length := by unfold pu; rw [List.length_append, List.length_take, List.length_cons, List.length_drop]; omega
theorem gi_pu (L : List (ByteArray × Int)) (i : Nat) (hi : i < L.length) (v : Int) (j : Nat) : gi (pu L i v) j = if j = i then ((gi L i).1, v) else gi L j := by
  have hl : (L.take i).length = i := by rw [List.length_take]; omega
  rw [gi_get, pu]
  rcases Nat.lt_trichotomy j i with h | h | h
  · rw [if_neg (by omega), List.getElem?_append_left (by omega), List.getElem?_take, if_pos h, ← gi_get]
  · subst h
    rw [if_pos rfl, List.getElem?_append_right (by omega), hl, Nat.sub_self]
    rfl
  · rw [if_neg (by omega), List.getElem?_append_right (by omega), hl, show j - i = (j - (i + 1)) + 1 by omega, List.getElem?_cons_succ, List.getElem?_drop, show i + 1 + (j - (i + 1)) = j by omega, ← gi_get]
theorem gi_er (L : List (ByteArray × Int)) (i : Nat) (hi : i < L.length) (j : Nat) : gi (L.take i ++ L.drop (i + 1)) j = if j < i then gi L j else gi L (j + 1) := by
  have hl : (L.take i).length = i := by rw [List.length_take]; omega
  rw [gi_get]
  by_cases h : j < i
  · rw [if_pos h, List.getElem?_append_left (by omega), List.getElem?_take, if_pos h, ← gi_get]
  · rw [if_neg h, List.getElem?_append_right (by omega), hl, List.getElem?_drop, show i + 1 + (j - i) = j + 1 by omega, ← gi_get]
theorem pu_self (L : List (ByteArray × Int)) (i : Nat) (hi : i < L.length) : pu L i (gi L i).2 = L := by
  unfold pu
  rw [show ((gi L i).1, (gi L i).2) = L[i] from by rw [gi_at L i hi], ← List.drop_eq_getElem_cons hi, List.take_append_drop]
theorem pu_fits {A : List As} {I L : List (ByteArray × Int)} (h : Fits A I L) (i : Nat) (hi : i < L.length) (v : Int) (h0 : 1 ≤ v) (h1 : v ≤ 1048576) : Fits A I (pu L i v) := by
  have hn : ∀ j, (gi (pu L i v) j).1 = (gi L j).1 := fun j => by
    rw [gi_pu L i hi]
    split
    · rename_i e
      rw [e]
    · rfl
  refine ⟨h.lA, h.lI, by rw [pu_len L i hi]; exact h.lL, h.sA, h.sI, ?_, h.rA, h.fA, h.rI, ?_, ?_⟩
  · intro j hj hl
    show lt (gi _ (j - 1)).1 (gi _ j).1 = true
    rw [hn, hn]
    exact h.sL j hj (by rwa [pu_len L i hi] at hl)
  · intro j hj
    rw [pu_len L i hi] at hj
    rw [gi_pu L i hi]
    split
    · exact ⟨h0, h1⟩
    · exact h.rL j hj
  · intro j hj
    rw [pu_len L i hi] at hj
    rw [hn]
    exact h.fL j hj
theorem er_len (L : List (ByteArray × Int)) (i : Nat) (hi : i < L.length) : (L.take i ++ L.drop (i + 1)).length = L.length - 1 := by rw [List.length_append, List.length_take, List.length_drop]; omega
theorem er_fits {A : List As} {I L : List (ByteArray × Int)} (h : Fits A I L) (i : Nat) (hi : i < L.length) : Fits A I (L.take i ++ L.drop (i + 1)) := by
  have hl := er_len L i hi
  have h32 := h.lL
  refine ⟨h.lA, h.lI, by omega, h.sA, h.sI, ?_, h.rA, h.fA, h.rI, ?_, ?_⟩
  · intro j hj hjl
    rw [hl] at hjl
    show lt (gi _ (j - 1)).1 (gi _ j).1 = true
    rw [gi_er L i hi, gi_er L i hi]
    split <;> split
    · exact h.sL j hj (by omega)
    · exact h.sL.lt (j - 1) (j + 1) (by omega) (by omega)
    · omega
    · exact h.sL.lt (j - 1 + 1) (j + 1) (by omega) (by omega)
  · intro j hj
    rw [hl] at hj
    rw [gi_er L i hi]
    split
    · exact h.rL j (by omega)
    · exact h.rL (j + 1) (by omega)
  · intro j hj
    rw [hl] at hj
    rw [gi_er L i hi]
    split
    · exact h.fL j (by omega)
    · exact h.fL (j + 1) (by omega)
theorem wo_pu (L : List (ByteArray × Int)) (i : Nat) (n : Int) : wo L i n = if (gi L i).2 - n = 0 then L.take i ++ L.drop (i + 1) else pu L i ((gi L i).2 - n) := rfl
theorem wo_fits {A : List As} {I L : List (ByteArray × Int)} (h : Fits A I L) (i : Nat) (hi : i < L.length) (n : Int) (h0 : 0 ≤ n) (h1 : n ≤ (gi L i).2) : Fits A I (wo L i n) := by
  have := h.rL i hi
  rw [wo_pu]
  split
  · exact er_fits h i hi
  · exact pu_fits h i hi _ (by omega) (by omega)
/-- the value with v units of the i-th -/
def Uv (A : List As) (I L : List (ByteArray × Int)) (i : Nat) (v : Int) : Int := val (mkP A (pu L i v)) (moF I)
def Um (A : List As) (I L : List (ByteArray × Int)) (i : Nat) (v : Int) : Int := mkt (mkP A (pu L i v)) (moF I)
theorem mkP_app (A : List As) (X Y : List (ByteArray × Int)) : mkP A (X ++ Y) = mkP A X ++ mkP A Y := by unfold mkP; rw [List.map_append]
theorem mkP_mem {A : List As} {I L : List (ByteArray × Int)} (h : Fits A I L) : ∀ x ∈ mkP A L, inR x ∧ x.1.iss ∈ I.map Prod.fst := by
  intro x hx
  refine ⟨mkP_in h x hx, ?_⟩
  unfold mkP at hx
  obtain ⟨y, hy, rfl⟩ := List.mem_map.1 hx
  obtain ⟨i, hi, rfl⟩ := List.mem_iff_getElem.1 hy
  rw [← gi_at L i hi]
  obtain ⟨_, j, hj, _, he⟩ := asF_range h i hi
  show (asF A (gi L i).1).iss ∈ _
  rw [he]
  have hs := h.fA j hj
  unfold fnI at hs
  rcases fidx_first I.length (fun i => (gi I i).1) (ga A j).iss with ⟨k, hk, hl, hq, _⟩ | ⟨hk, _⟩
  · rw [← hq]
    exact List.mem_map.2 ⟨gi I k, by rw [gi_at I k hl]; exact List.getElem_mem _, rfl⟩
  · rw [hk] at hs
    cases hs
theorem names_nodup {I : List (ByteArray × Int)} (h : Sorted I.length fun i => (gi I i).1) : (I.map Prod.fst).Nodup := by
  rw [List.nodup_iff_pairwise_ne, List.pairwise_iff_getElem]
  intro i j hi hj hij e
  rw [List.length_map] at hi hj
  have h1 : (gi I i).1 = (gi I j).1 := by
    rw [gi_at I i hi, gi_at I j hj]
    simpa using e
  have := h.inj i j hi hj h1
  omega
theorem er_val {A : List As} {I L : List (ByteArray × Int)} (h : Fits A I L) (i : Nat) (hi : i < L.length) : val (mkP A (L.take i ++ L.drop (i + 1))) (moF I) = Uv A I L i 0 ∧ mkt (mkP A (L.take i ++ L.drop (i + 1))) (moF I) = Um A I L i 0 := by
  unfold Uv Um pu
  rw [mkP_app, mkP_app, show mkP A (((gi L i).1, (0 : Int)) :: L.drop (i + 1)) = (asF A (gi L i).1, 0) :: mkP A (L.drop (i + 1)) from rfl]
  have := val_insert (P := mkP A (L.take i)) (Q := mkP A (L.drop (i + 1))) (x := asF A (gi L i).1) (asF_range h i hi).1 (fun x hx => mkP_in h x (by
    unfold mkP at hx ⊢
    obtain ⟨y, hy, rfl⟩ := List.mem_map.1 hx
    exact List.mem_map.2 ⟨y, List.mem_of_mem_take hy, rfl⟩)) (m := moF I) (fun t => (moF_range h t).1)
  exact ⟨this.1.symm, this.2.symm⟩
theorem wo_val {A : List As} {I L : List (ByteArray × Int)} (h : Fits A I L) (i : Nat) (hi : i < L.length) (n : Int) : val (mkP A (wo L i n)) (moF I) = Uv A I L i ((gi L i).2 - n) := by
  rw [wo_pu]
  split
  · rename_i e
    rw [e]
    exact (er_val h i hi).1
  · rfl
theorem grL_refl : ∀ P : List (As × Int), GrL P P
  | [] => trivial
  | _ :: P => ⟨⟨rfl, Int.le_refl _⟩, grL_refl P⟩
theorem grL_mid (P Q : List (As × Int)) (x : As) {u v : Int} (h : u ≤ v) : GrL (P ++ (x, u) :: Q) (P ++ (x, v) :: Q) := by
  induction P with
  | nil => exact ⟨⟨rfl, h⟩, grL_refl Q⟩
  | cons y P ih => exact ⟨⟨rfl, Int.le_refl _⟩, ih⟩
theorem du_refl (P : List (As × Int)) : du P P = 0 := by
  induction P with
  | nil => rfl
  | cons x P ih =>
    show (x.2 - x.2) * x.1.pr + du P P = 0
    rw [ih, Int.sub_self, Int.zero_mul]
    rfl
theorem du_mid (P Q : List (As × Int)) (x : As) (u v : Int) : du (P ++ (x, u) :: Q) (P ++ (x, v) :: Q) = (v - u) * x.pr := by
  induction P with
  | nil =>
    show (v - u) * x.pr + du Q Q = _
    rw [du_refl, Int.add_zero]
  | cons y P ih =>
    show (y.2 - y.2) * y.1.pr + du (P ++ (x, u) :: Q) (P ++ (x, v) :: Q) = _
    rw [ih, Int.sub_self, Int.zero_mul, Int.zero_add]
/-- more units never count for less, and by no more than their market value -/
theorem Uv_mono {A : List As} {I L : List (ByteArray × Int)} (h : Fits A I L) (i : Nat) (hi : i < L.length) (u v : Int) (h0 : 0 ≤ u) (h1 : u ≤ v) (h2 : v ≤ 1048576) : Uv A I L i u ≤ Uv A I L i v ∧ Uv A I L i v - Uv A I L i u ≤ (v - u) * (asF A (gi L i).1).pr := by
  have hpu : ∀ t : Int, mkP A (pu L i t) = mkP A (L.take i) ++ (asF A (gi L i).1, t) :: mkP A (L.drop (i + 1)) := fun t => by unfold pu; rw [mkP_app]; rfl
  have hmem : ∀ t : Int, 0 ≤ t → t ≤ 1048576 → ∀ x ∈ mkP A (pu L i t), inR x ∧ x.1.iss ∈ I.map Prod.fst := by
    intro t t0 t1 x hx
    rw [hpu] at hx
    have hself := mkP_mem h
    rw [← pu_self L i hi, hpu] at hself
    rcases List.mem_append.1 hx with g | g
    · exact hself x (List.mem_append.2 (.inl g))
    · rcases List.mem_cons.1 g with rfl | g
      · have := hself (asF A (gi L i).1, (gi L i).2) (List.mem_append.2 (.inr (List.mem_cons_self ..)))
        exact ⟨⟨this.1.1, t0, t1⟩, this.2⟩
      · exact hself x (List.mem_append.2 (.inr (List.mem_cons_of_mem _ g)))
  have hm := more_val (names_nodup h.sI) (mkP A (pu L i u)) (mkP A (pu L i v)) (moF I) (moF I) (by rw [hpu, hpu]; exact grL_mid _ _ _ h1) (hmem u h0 (by omega)) (fun x hx => (hmem v (by omega) h2 x hx).1) (fun t => ⟨(moF_range h t).1, Int.le_refl _⟩)
  have hs : sN (I.map Prod.fst) (fun t => moF I t - moF I t) = 0 := by
    have : ∀ ns : List ByteArray, sN ns (fun t => moF I t - moF I t) = 0 := by
      intro ns
      induction ns with
      | nil => rfl
      | cons t ns ih =>
        unfold sN at ih ⊢
        rw [List.map_cons, sm_cons, ih]
        omega
    exact this _
  rw [hs] at hm
  have hd : du (mkP A (pu L i u)) (mkP A (pu L i v)) = (v - u) * (asF A (gi L i).1).pr := by rw [hpu, hpu, du_mid]
  rw [hd] at hm
  unfold Uv
  exact ⟨by omega, hm.2⟩
/-- how many units may be taken away -/
def Rel (V : Int → Int) (have_ need N : Int) : Prop := 0 ≤ N ∧ N ≤ have_ ∧ need ≤ V N ∧ ∀ m, N < m → m ≤ have_ → V m < need
theorem rel_uniq {V : Int → Int} {h n N M : Int} (a : Rel V h n N) (b : Rel V h n M) : N = M := by
  obtain ⟨a0, a1, a2, a3⟩ := a
  obtain ⟨b0, b1, b2, b3⟩ := b
  rcases Int.lt_trichotomy N M with g | g | g
  · have := a3 M g b1
    omega
  · exact g
  · have := b3 N g a1
    omega
/-- Release's result and error -/
inductive RelR (A : List As) (I L : List (ByteArray × Int)) (t : ByteArray) (need r e : Int) : Prop
  | bad (h : fitB A I L = false) (h1 : r = 0) (h2 : e = 8)
  | none (h : fitB A I L = true) (h0 : fnL L t = .none) (h1 : r = 0) (h2 : e = 6)
  | arg (h : fitB A I L = true) (i : Nat) (h0 : fnL L t = some i) (h3 : ¬ (0 ≤ need ∧ need ≤ 1125899906842624)) (h1 : r = 0) (h2 : e = 2)
  | cash (h : fitB A I L = true) (i : Nat) (h0 : fnL L t = some i) (h3 : 0 ≤ need ∧ need ≤ 1125899906842624) (h4 : val (mkP A L) (moF I) < need) (h1 : r = 0) (h2 : e = 50)
  | ok (h : fitB A I L = true) (i : Nat) (h0 : fnL L t = some i) (h3 : 0 ≤ need ∧ need ≤ 1125899906842624) (h4 : need ≤ val (mkP A L) (moF I)) (h1 : Rel (fun n => Uv A I L i ((gi L i).2 - n)) (gi L i).2 need r) (h2 : e = 0)
theorem fnL_at {L : List (ByteArray × Int)} {t : ByteArray} {i : Nat} (h : fnL L t = some i) : i < L.length ∧ (gi L i).1 = t := by
  unfold fnL at h
  rcases fidx_first L.length (fun i => (gi L i).1) t with ⟨j, hj, hl, he, _⟩ | ⟨hj, _⟩
  · rw [hj] at h
    cases h
    exact ⟨hl, he⟩
  · rw [hj] at h
    cases h
theorem rel_exists {V : Int → Int} {need : Int} : ∀ (k : Nat), need ≤ V 0 → ∃ N, Rel V k need N := by
  intro k
  induction k with
  | zero => exact fun h => ⟨0, Int.le_refl _, Int.le_refl _, h, fun m h1 h2 => by simp at h2; omega⟩
  | succ k ih =>
    intro h
    by_cases g : need ≤ V (k + 1 : Nat)
    · exact ⟨(k + 1 : Nat), by omega, Int.le_refl _, g, fun m h1 h2 => by omega⟩
    · obtain ⟨N, h0, h1, h2, h3⟩ := ih h
      refine ⟨N, h0, by omega, h2, fun m hm1 hm2 => ?_⟩
      by_cases e : m = (k + 1 : Nat)
      · rw [e]
        omega
      · exact h3 m hm1 (by omega)
theorem relR_exists (A : List As) (I L : List (ByteArray × Int)) (t : ByteArray) (need : Int) : ∃ r e, RelR A I L t need r e := by
  rcases hb (fitB A I L) with h | h
  · cases h0 : fnL L t with
    | none => exact ⟨0, 6, .none h h0 rfl rfl⟩
    | some i =>
      by_cases h3 : 0 ≤ need ∧ need ≤ 1125899906842624
      · by_cases h4 : val (mkP A L) (moF I) < need
        · exact ⟨0, 50, .cash h i h0 h3 h4 rfl rfl⟩
        · obtain ⟨hi, _⟩ := fnL_at h0
          have hu := (fits_of h).rL i hi
          have hv : need ≤ Uv A I L i ((gi L i).2 - 0) := by
            rw [Int.sub_zero]
            unfold Uv
            rw [pu_self L i hi]
            omega
          obtain ⟨N, hN⟩ := rel_exists (V := fun n => Uv A I L i ((gi L i).2 - n)) (gi L i).2.toNat hv
          rw [Int.toNat_of_nonneg (by omega)] at hN
          exact ⟨N, 0, .ok h i h0 h3 (by omega) hN rfl⟩
      · exact ⟨0, 2, .arg h i h0 h3 rfl rfl⟩
  · exact ⟨0, 8, .bad h rfl rfl⟩
end Go.Proofs.Ytbfgnkakcnhojaa.Co
