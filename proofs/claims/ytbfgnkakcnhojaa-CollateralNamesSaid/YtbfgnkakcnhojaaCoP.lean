/-
  Collateral, plain: what holdings count for; the value; more units never count for less.
-/
import Derived.Test.YtbfgnkakcnhojaaCo4
namespace Go.Proofs.Ytbfgnkakcnhojaa.Co
open Go.RowKit Go.Proofs.Ytbfgnkakcnhojaa Go.Proofs.Ytbfgnkakcnhojaa.Ls Go.Proofs.Ytbfgnkakcnhojaa.Kb
open Go.Proofs.Ytbfgnkakcnhojaa.Nm hiding ret_bool ret_int

/-- the first index of this name -/
def fidx (n : Nat) (f : Nat → ByteArray) (t : ByteArray) : Option Nat := (List.range n).find? fun i => decide (f i = t)
theorem fidx_first (n : Nat) (f : Nat → ByteArray) (t : ByteArray) : First n f t (fidx n f t) := by
  unfold fidx
  induction n with
  | zero => exact .inr ⟨rfl, fun i hi => by omega⟩
  | succ n ih =>
    rw [List.range_succ, List.find?_append]
    rcases ih with ⟨i, h1, h2, h3, h4⟩ | ⟨h1, h2⟩
    · rw [h1]
      exact .inl ⟨i, rfl, by omega, h3, h4⟩
    · rw [h1]
      by_cases e : f n = t
      · refine .inl ⟨n, ?_, by omega, e, fun j hj => h2 j hj⟩
        simp [e]
      · refine .inr ⟨?_, fun i hi => ?_⟩
        · simp [e]
        · rcases Nat.lt_or_ge i n with g | g
          · exact h2 i g
          · obtain rfl : i = n := by omega
            exact e
theorem first_uniq {n : Nat} {f : Nat → ByteArray} {t : ByteArray} {r q : Option Nat} (h : First n f t r) (k : First n f t q) : r = q := by
  rcases h with ⟨i, rfl, hi, ei, mi⟩ | ⟨rfl, hno⟩ <;> rcases k with ⟨j, rfl, hj, ej, mj⟩ | ⟨rfl, kno⟩
  · rcases Nat.lt_trichotomy i j with g | g | g
    · exact absurd ei (mj i g)
    · rw [g]
    · exact absurd ej (mi j g)
  · exact absurd ei (kno i hi)
  · exact absurd ej (hno j hj)
  · rfl
def fnI (I : List (ByteArray × Int)) (t : ByteArray) : Option Nat := fidx I.length (fun i => (gi I i).1) t
def fnA (A : List As) (t : ByteArray) : Option Nat := fidx A.length (fun i => (ga A i).nm) t
/-- the asset of this name; the Most of the issuer of this name -/
def asF (A : List As) (t : ByteArray) : As := oa A (fnA A t)
def moF (I : List (ByteArray × Int)) (t : ByteArray) : Int := (oi I (fnI I t)).2
def mkP (A : List As) (L : List (ByteArray × Int)) : List (As × Int) := L.map fun h => (asF A h.1, h.2)

/-- what a holding counts for where l is left of its issuer's Most -/
def cvl (x : As) (u l : Int) : Int := if x.el then min (min (u * x.pr * (1000 - x.hc) / 1000) x.mo) l else 0
/-- what is left of the issuers' Mosts behind it -/
def step (x : As) (u : Int) (m : ByteArray → Int) (t : ByteArray) : Int := if x.iss = t then m t - cvl x u (m x.iss) else m t
def fin (P : List (As × Int)) (m : ByteArray → Int) : ByteArray → Int := P.foldl (fun m x => step x.1 x.2 m) m
/-- market values, and what holdings count for -/
def gl : List (As × Int) → (ByteArray → Int) → List (Int × Int)
  | [], _ => []
  | x :: P, m => (x.2 * x.1.pr, cvl x.1 x.2 (m x.1.iss)) :: gl P (step x.1 x.2 m)
theorem fin_append (P : List (As × Int)) (x : As × Int) (m : ByteArray → Int) : fin (P ++ [x]) m = step x.1 x.2 (fin P m) := by simp [fin]
theorem gl_append (P : List (As × Int)) (x : As × Int) (m : ByteArray → Int) : gl (P ++ [x]) m = gl P m ++ [(x.2 * x.1.pr, cvl x.1 x.2 (fin P m x.1.iss))] := by
  induction P generalizing m with
  | nil => rfl
  | cons y P ih => simp only [List.cons_append, gl, ih]; rfl
theorem gl_len (P : List (As × Int)) (m : ByteArray → Int) : (gl P m).length = P.length := by
  induction P generalizing m with
  | nil => rfl
  | cons y P ih => simp only [gl, List.length_cons, ih]
theorem gl_pre (P Q : List (As × Int)) (m : ByteArray → Int) : gl P m <+: gl (P ++ Q) m := by
  induction P generalizing m with
  | nil => exact List.nil_prefix
  | cons y P ih => exact (List.cons_prefix_cons).2 ⟨rfl, ih _⟩
/-- the value; the market value -/
def sm (l : List Int) : Int := l.foldl (· + ·) 0
theorem sm_snoc (l : List Int) (x : Int) : sm (l ++ [x]) = sm l + x := by simp [sm]
theorem foldl_add (l : List Int) (a : Int) : l.foldl (· + ·) a = a + l.foldl (· + ·) 0 := by
  induction l generalizing a with
  | nil => simp
  | cons x l ih => rw [List.foldl_cons, List.foldl_cons, ih, ih (0 + x)]; omega
theorem sm_cons (l : List Int) (x : Int) : sm (x :: l) = x + sm l := by
  unfold sm
  rw [List.foldl_cons, foldl_add]
  omega
def mkt (P : List (As × Int)) (m : ByteArray → Int) : Int := sm ((gl P m).map Prod.fst)
def val (P : List (As × Int)) (m : ByteArray → Int) : Int := sm ((gl P m).map Prod.snd)
theorem val_cons (x : As × Int) (P : List (As × Int)) (m : ByteArray → Int) : val (x :: P) m = cvl x.1 x.2 (m x.1.iss) + val P (step x.1 x.2 m) := by
  unfold val
  simp only [gl, List.map_cons, sm_cons]
theorem mkt_cons (x : As × Int) (P : List (As × Int)) (m : ByteArray → Int) : mkt (x :: P) m = x.2 * x.1.pr + mkt P (step x.1 x.2 m) := by
  unfold mkt
  simp only [gl, List.map_cons, sm_cons]
/-- in range -/
def inR (x : As × Int) : Prop := asR x.1 ∧ 0 ≤ x.2 ∧ x.2 ≤ 1048576
theorem red_range {x : As} (h : asR x) {u : Int} (h0 : 0 ≤ u) (h1 : u ≤ 1048576) : 0 ≤ u * x.pr * (1000 - x.hc) / 1000 ∧ u * x.pr * (1000 - x.hc) / 1000 ≤ u * x.pr := by
  have hp := prod_range h h0 h1
  have hq : u * x.pr * (1000 - x.hc) ≤ u * x.pr * 1000 := Int.mul_le_mul_of_nonneg_left (by have := h.2.2.1; omega) hp.1.1
  refine ⟨Int.ediv_nonneg hp.2.1 (by omega), ?_⟩
  omega
theorem cvl_range {x : As} (h : asR x) {u : Int} (h0 : 0 ≤ u) (h1 : u ≤ 1048576) {l : Int} (hl : 0 ≤ l) : 0 ≤ cvl x u l ∧ cvl x u l ≤ l ∧ cvl x u l ≤ x.mo ∧ cvl x u l ≤ u * x.pr := by
  have hr := red_range h h0 h1
  have hp := (prod_range h h0 h1).1
  obtain ⟨_, _, _, _, m0, _⟩ := h
  unfold cvl
  split <;> omega
theorem step_range {x : As} (h : asR x) {u : Int} (h0 : 0 ≤ u) (h1 : u ≤ 1048576) {m : ByteArray → Int} (hm : ∀ t, 0 ≤ m t) (t : ByteArray) : 0 ≤ step x u m t ∧ step x u m t ≤ m t := by
  have := cvl_range h h0 h1 (hm x.iss)
  have := hm t
  unfold step
  split
  · rename_i e
    rw [← e] at *
    omega
  · omega
theorem fin_range {P : List (As × Int)} (h : ∀ x ∈ P, inR x) {m : ByteArray → Int} (hm : ∀ t, 0 ≤ m t) (t : ByteArray) : 0 ≤ fin P m t ∧ fin P m t ≤ m t := by
  induction P generalizing m with
  | nil => exact ⟨hm t, Int.le_refl _⟩
  | cons x P ih =>
    have hx := h x (by simp)
    have hs := fun t => step_range hx.1 hx.2.1 hx.2.2 hm t
    have := ih (fun y hy => h y (by simp [hy])) (m := step x.1 x.2 m) (fun t => (hs t).1)
    have := hs t
    show 0 ≤ fin P (step x.1 x.2 m) t ∧ fin P (step x.1 x.2 m) t ≤ m t
    omega
theorem val_range {P : List (As × Int)} (h : ∀ x ∈ P, inR x) {m : ByteArray → Int} (hm : ∀ t, 0 ≤ m t) : 0 ≤ val P m ∧ val P m ≤ mkt P m ∧ mkt P m ≤ P.length * 35184372088832 := by
  induction P generalizing m with
  | nil => exact ⟨Int.le_refl _, Int.le_refl _, by simp [mkt, gl, sm]⟩
  | cons x P ih =>
    have hx := h x (by simp)
    have hs := fun t => step_range hx.1 hx.2.1 hx.2.2 hm t
    have := ih (fun y hy => h y (by simp [hy])) (m := step x.1 x.2 m) (fun t => (hs t).1)
    have := cvl_range hx.1 hx.2.1 hx.2.2 (hm x.1.iss)
    have := (prod_range hx.1 hx.2.1 hx.2.2).1
    rw [val_cons, mkt_cons, List.length_cons]
    omega

/-- a holding of nothing counts for nothing -/
theorem cvl_zero {x : As} (h : asR x) {l : Int} (hl : 0 ≤ l) : cvl x 0 l = 0 := by
  obtain ⟨_, _, _, _, m0, _⟩ := h
  unfold cvl
  split
  · simp only [Int.zero_mul, Int.zero_ediv]
    omega
  · rfl
theorem val_insert {P Q : List (As × Int)} {x : As} (hx : asR x) (hP : ∀ x ∈ P, inR x) {m : ByteArray → Int} (hm : ∀ t, 0 ≤ m t) : val (P ++ (x, 0) :: Q) m = val (P ++ Q) m ∧ mkt (P ++ (x, 0) :: Q) m = mkt (P ++ Q) m := by
  induction P generalizing m with
  | nil =>
    rw [List.nil_append, List.nil_append, val_cons, mkt_cons, cvl_zero hx (hm _)]
    have : step x 0 m = m := by
      funext t
      unfold step
      rw [cvl_zero hx (hm _)]
      split <;> omega
    rw [this]
    constructor <;> simp
  | cons y P ih =>
    have hy := hP y (by simp)
    have := ih (fun z hz => hP z (by simp [hz])) (m := step y.1 y.2 m) (fun t => (step_range hy.1 hy.2.1 hy.2.2 hm t).1)
    rw [List.cons_append, List.cons_append, val_cons, mkt_cons, val_cons, mkt_cons, this.1, this.2]
    exact ⟨rfl, rfl⟩

/-- the sum over names -/
def sN (ns : List ByteArray) (f : ByteArray → Int) : Int := sm (ns.map f)
theorem sN_nonneg {ns : List ByteArray} {f : ByteArray → Int} (h : ∀ t, 0 ≤ f t) : 0 ≤ sN ns f := by
  unfold sN
  induction ns with
  | nil => exact Int.le_refl _
  | cons t ns ih =>
    rw [List.map_cons, sm_cons]
    have := h t
    omega
theorem sN_same {ns : List ByteArray} {f g : ByteArray → Int} (h : ∀ t ∈ ns, f t = g t) : sN ns f = sN ns g := by
  unfold sN
  rw [List.map_congr_left h]
theorem sN_at {ns : List ByteArray} (hn : ns.Nodup) {s : ByteArray} (hs : s ∈ ns) {f g : ByteArray → Int} {d : Int} (h1 : g s = f s + d) (h2 : ∀ t, t ≠ s → g t = f t) : sN ns g = sN ns f + d := by
  induction ns with
  | nil => cases hs
  | cons t ns ih =>
    obtain ⟨hn1, hn2⟩ := List.nodup_cons.1 hn
    have e1 : sN (t :: ns) g = g t + sN ns g := by unfold sN; rw [List.map_cons, sm_cons]
    have e2 : sN (t :: ns) f = f t + sN ns f := by unfold sN; rw [List.map_cons, sm_cons]
    rw [e1, e2]
    by_cases e : t = s
    · subst e
      rw [sN_same (f := g) (g := f) (fun u hu => h2 u (fun e => hn1 (e ▸ hu))), h1]
      omega
    · rcases List.mem_cons.1 hs with g1 | g1
      · exact absurd g1.symm e
      · rw [ih hn2 g1, h2 t e]
        omega

/-- a holding of at least as many units of the same asset -/
def Gr (x y : As × Int) : Prop := x.1 = y.1 ∧ x.2 ≤ y.2
/-- .. one by one -/
def GrL : List (As × Int) → List (As × Int) → Prop
  | [], [] => True
  | x :: P, y :: Q => Gr x y ∧ GrL P Q
  | _, _ => False
/-- the units' market value that comes in addition -/
def du : List (As × Int) → List (As × Int) → Int
  | x :: P, y :: Q => (y.2 - x.2) * x.1.pr + du P Q
  | _, _ => 0
theorem floor_add {a b c : Int} (h : b ≤ 1000 * c) : (a + b) / 1000 ≤ a / 1000 + c := by omega
theorem more_val {ns : List ByteArray} (hn : ns.Nodup) : ∀ (P Q : List (As × Int)) (m k : ByteArray → Int), GrL P Q → (∀ x ∈ P, inR x ∧ x.1.iss ∈ ns) → (∀ x ∈ Q, inR x) → (∀ t, 0 ≤ k t ∧ k t ≤ m t) →
    0 ≤ val Q k - val P m + sN ns (fun t => m t - k t) ∧ val Q k - val P m ≤ du P Q
  | [], [], m, k, _, _, _, hk => by
    have := sN_nonneg (ns := ns) (f := fun t => m t - k t) (fun t => by have := hk t; omega)
    have e1 : val [] k = 0 := rfl
    have e2 : val [] m = 0 := rfl
    rw [e1, e2]
    exact ⟨by omega, by simp [du]⟩
  | x :: P, y :: Q, m, k, h, hP, hQ, hk => by
    obtain ⟨h1, h2⟩ : Gr x y ∧ GrL P Q := h
    obtain ⟨x, u⟩ := x
    obtain ⟨y, v⟩ := y
    obtain ⟨rfl, huv⟩ : x = y ∧ u ≤ v := h1
    obtain ⟨⟨hr, u0, u1⟩, hns⟩ := hP (x, u) (by simp)
    obtain ⟨_, v0, v1⟩ := hQ (x, v) (by simp)
    have hks := hk x.iss
    change asR x at hr
    change 0 ≤ u at u0
    change u ≤ 1048576 at u1
    change 0 ≤ v at v0
    change v ≤ 1048576 at v1
    change x.iss ∈ ns at hns
    have a1 := red_range hr u0 u1
    have a2 := red_range hr v0 v1
    have b1 := cvl_range hr u0 u1 (show 0 ≤ m x.iss by omega)
    have b2 := cvl_range hr v0 v1 hks.1
    have hm0 : 0 ≤ x.mo := hr.2.2.2.2.1
    have hdp : 0 ≤ (v - u) * x.pr := Int.mul_nonneg (by omega) hr.1
    have hde : v * x.pr = u * x.pr + (v - u) * x.pr := by rw [← Int.add_mul]; congr 1; omega
    have hdq : (v - u) * x.pr * (1000 - x.hc) ≤ 1000 * ((v - u) * x.pr) := by
      rw [Int.mul_comm 1000]
      exact Int.mul_le_mul_of_nonneg_left (by have := hr.2.2.1; omega) hdp
    have hdn : 0 ≤ (v - u) * x.pr * (1000 - x.hc) := Int.mul_nonneg hdp (by have := hr.2.2.2.1; omega)
    have hfl : v * x.pr * (1000 - x.hc) / 1000 ≤ u * x.pr * (1000 - x.hc) / 1000 + (v - u) * x.pr := by
      rw [hde, Int.add_mul]
      exact floor_add hdq
    have hmo : u * x.pr * (1000 - x.hc) / 1000 ≤ v * x.pr * (1000 - x.hc) / 1000 := by
      rw [hde, Int.add_mul]
      omega
    have hc : cvl x v (k x.iss) - cvl x u (m x.iss) ≤ (v - u) * x.pr ∧ (k x.iss) - cvl x v (k x.iss) ≤ m x.iss - cvl x u (m x.iss) := by
      unfold cvl
      split <;> omega
    have hst : ∀ t, 0 ≤ step x v k t ∧ step x v k t ≤ step x u m t := fun t => by
      have := hk t
      have := (step_range hr v0 v1 (fun t => (hk t).1) t).1
      refine ⟨this, ?_⟩
      unfold step
      split
      · rename_i e
        rw [← e]
        exact hc.2
      · omega
    have ih := more_val hn P Q (step x u m) (step x v k) h2 (fun z hz => hP z (by simp [hz])) (fun z hz => hQ z (by simp [hz])) hst
    have hsum : sN ns (fun t => step x u m t - step x v k t) = sN ns (fun t => m t - k t) + (cvl x v (k x.iss) - cvl x u (m x.iss)) := by
      refine sN_at hn hns ?_ fun t ht => ?_
      · unfold step
        rw [if_pos rfl, if_pos rfl]
        omega
      · unfold step
        rw [if_neg (fun e => ht e.symm), if_neg (fun e => ht e.symm)]
    rw [hsum] at ih
    rw [val_cons, val_cons]
    simp only [du]
    omega
  | [], _ :: _, _, _, h, _, _, _ => h.elim
  | _ :: _, [], _, _, h, _, _, _ => h.elim

/-- the holdings of some issuers alone -/
theorem val_split (p : ByteArray → Bool) (P : List (As × Int)) (m k j : ByteArray → Int) (hk : ∀ t, p t = true → k t = m t) (hj : ∀ t, p t = false → j t = m t) :
    val P m = val (P.filter fun x => p x.1.iss) k + val (P.filter fun x => !p x.1.iss) j := by
  induction P generalizing m k j with
  | nil => rfl
  | cons x P ih =>
    rcases hb (p x.1.iss) with h | h
    · rw [List.filter_cons_of_pos (by simpa using h), List.filter_cons_of_neg (by simp [h]), val_cons, val_cons, hk _ h]
      rw [ih (step x.1 x.2 m) (step x.1 x.2 k) j ?_ ?_]
      · omega
      · intro t ht
        unfold step
        rw [hk _ h, hk _ ht]
      · intro t ht
        unfold step
        rw [if_neg (fun e => by rw [e, ht] at h; cases h)]
        exact hj t ht
    · rw [List.filter_cons_of_neg (by simp [h]), List.filter_cons_of_pos (by simp [h]), val_cons, val_cons, hj _ h]
      rw [ih (step x.1 x.2 m) k (step x.1 x.2 j) ?_ ?_]
      · omega
      · intro t ht
        unfold step
        rw [if_neg (fun e => by rw [e, ht] at h; cases h)]
        exact hk t ht
      · intro t ht
        unfold step
        rw [hj _ h, hj _ ht]
end Go.Proofs.Ytbfgnkakcnhojaa.Co
