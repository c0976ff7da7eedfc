/-
  Compress, plain: tearing a cycle changes no net position; the gross position falls.
-/
import Derived.Test.YtpphiohppgphnaaCv4
namespace Go.Proofs.Ytpphiohppgphnaa.Cs
open Go.RowKit Go.Proofs.Ytpphiohppgphnaa Go.Proofs.Ytpphiohppgphnaa.Ls Go.Proofs.Ytpphiohppgphnaa.Kb Go.Proofs.Ytpphiohppgphnaa.Cz
open Go.Proofs.Ytpphiohppgphnaa.Nm hiding ret_bool ret_int hb'

def sumL (f : Tr → Int) : List Tr → Int
  | [] => 0
  | x :: l => f x + sumL f l
theorem sumL_append (f : Tr → Int) (a b : List Tr) : sumL f (a ++ b) = sumL f a + sumL f b := by
  induction a with
  | nil => rw [List.nil_append]; show _ = 0 + _; omega
  | cons x a ih => show f x + sumL f (a ++ b) = f x + sumL f a + _; omega
theorem sumL_filter (f : Tr → Int) (q : Tr → Bool) (l : List Tr) (h : ∀ x ∈ l, q x = false → f x = 0) : sumL f (l.filter q) = sumL f l := by
  induction l with
  | nil => rfl
  | cons x l ih =>
    have := ih fun y hy => h y (List.mem_cons_of_mem _ hy)
    rw [List.filter_cons]
    split
    · show f x + _ = f x + _
      omega
    · rename_i e
      have h0 := h x (List.mem_cons_self ..) (by simpa using e)
      show _ = f x + _
      omega
theorem sumL_set (f : Tr → Int) (y : Tr) : ∀ (l : List Tr) (i : Nat), i < l.length → sumL f (l.set i y) = sumL f l + (f y - f (gt l i)) := by
  intro l
  induction l with
  | nil => intro i h; cases h
  | cons x l ih =>
    intro i h
    cases i with
    | zero => show f y + sumL f l = f x + sumL f l + (f y - f x); omega
    | succ i =>
      have := ih i (by simpa using h)
      have e : gt (x :: l) (i + 1) = gt l i := rfl
      show f x + sumL f (l.set i y) = f x + sumL f l + _
      rw [e]
      omega
theorem netK_sum (l : List Tr) (p c : ByteArray) (k : Nat) (hk : k ≤ l.length) : netK l p c k = sumL (dl p c) (l.take k) := by
  induction k with
  | zero => rfl
  | succ k ih =>
    rw [List.take_succ_eq_append_getElem (by omega), sumL_append, ← ih (by omega), getElem_gt]
    show netK l p c k + dl p c (gt l k) = netK l p c k + (dl p c (gt l k) + 0)
    omega
theorem grK_sum (l : List Tr) (k : Nat) (hk : k ≤ l.length) : grK l k = sumL (fun x => x.amt) (l.take k) := by
  induction k with
  | zero => rfl
  | succ k ih =>
    rw [List.take_succ_eq_append_getElem (by omega), sumL_append, ← ih (by omega), getElem_gt]
    show grK l k + (gt l k).amt = grK l k + ((gt l k).amt + 0)
    omega
/-- how a trade counts for a party -/
def sg (p c : ByteArray) (x : Tr) : Int := if x.con = c then (if x.to_ = p then 1 else if x.fr = p then -1 else 0) else 0
theorem dl_sg (p c : ByteArray) (x : Tr) (v : Int) : dl p c ⟨x.fr, x.to_, x.con, v⟩ = v * sg p c x := by
  unfold dl sg
  dsimp only
  split
  · split
    · omega
    · split <;> omega
  · omega
def sgS (l : List Tr) (cs : List Nat) (p c : ByteArray) : Nat → Int
  | 0 => 0
  | k + 1 => sgS l cs p c k + sg p c (gt l (tn cs k))
def pv (p q : ByteArray) : Int := if q = p then 1 else 0
section
variable {l : List Tr} {cs : List Nat}
theorem sgS_cyc (hv : vldB l = true) (hc : Cyc l cs) (p c : ByteArray) : sgS l cs p c cs.length = 0 := by
  have h2 := hc.two
  by_cases h : (gt l (tn cs 0)).con = c
  · have hs : ∀ j, j < cs.length → sg p c (gt l (tn cs j)) = pv p (gt l (tn cs j)).to_ - pv p (gt l (tn cs j)).fr := fun j hj => by
      have hne := (okT_at hv _ (hc.lt j hj)).2.2.2.1
      unfold sg pv
      rw [if_pos ((hc.con j hj).trans h)]
      by_cases h1 : (gt l (tn cs j)).to_ = p
      · rw [if_pos h1, if_pos h1, if_neg (fun e => hne (by rw [e, h1]))]
        rfl
      · rw [if_neg h1, if_neg h1]
        split <;> rfl
    have key : ∀ k, k < cs.length → sgS l cs p c k = pv p (gt l (tn cs k)).fr - pv p (gt l (tn cs 0)).fr := fun k => by
      induction k with
      | zero => intro _; show (0 : Int) = _; omega
      | succ k ih =>
        intro hk
        show sgS l cs p c k + sg p c (gt l (tn cs k)) = _
        rw [ih (by omega), hs k (by omega), hc.next k hk]
        omega
    have e : cs.length = (cs.length - 1) + 1 := by omega
    rw [e]
    show sgS l cs p c (cs.length - 1) + sg p c (gt l (tn cs (cs.length - 1))) = 0
    rw [key _ (by omega), hs _ (by omega), hc.last]
    omega
  · have key : ∀ k, k ≤ cs.length → sgS l cs p c k = 0 := fun k => by
      induction k with
      | zero => intro _; rfl
      | succ k ih =>
        intro hk
        show sgS l cs p c k + sg p c (gt l (tn cs k)) = 0
        rw [ih (by omega)]
        unfold sg
        rw [if_neg (by rw [hc.con k (by omega)]; exact h)]
        rfl
    exact key _ (Nat.le_refl _)
theorem cut_sum (hc : Cyc l cs) (m : Int) (p c : ByteArray) : ∀ k, k ≤ cs.length → sumL (dl p c) (cut l cs m k) = sumL (dl p c) l - m * sgS l cs p c k ∧ sumL (fun x => x.amt) (cut l cs m k) = sumL (fun x => x.amt) l - m * k := by
  intro k
  induction k with
  | zero =>
    intro _
    rw [cut_zero]
    show _ = _ - m * 0 ∧ _ = _ - m * ((0 : Nat) : Int)
    constructor <;> simp
  | succ k ih =>
    intro hk
    obtain ⟨h1, h2⟩ := ih (by omega)
    obtain ⟨c1, c2⟩ := cut_step hc m k (by omega)
    rw [← c2]
    unfold setAmt
    have hlt := hc.lt k (by omega)
    rw [sumL_set _ _ _ _ (by rw [cut_len]; exact hlt), sumL_set _ _ _ _ (by rw [cut_len]; exact hlt), h1, h2, c1, dl_sg]
    have e := dl_sg p c (gt l (tn cs k)) (gt l (tn cs k)).amt
    have e : dl p c (gt l (tn cs k)) = (gt l (tn cs k)).amt * sg p c (gt l (tn cs k)) := e
    rw [e]
    constructor
    · show _ = _ - m * (sgS l cs p c k + sg p c (gt l (tn cs k)))
      rw [Int.sub_mul, Int.mul_add]
      omega
    · rw [show (((k + 1 : Nat)) : Int) = (k : Int) + 1 by omega, Int.mul_add]
      dsimp only
      omega
/-- torn: the sums -/
theorem torn_sum (hv : vldB l = true) (hc : Cyc l cs) (p c : ByteArray) : sumL (dl p c) (torn l cs) = sumL (dl p c) l ∧ sumL (fun x => x.amt) (torn l cs) = sumL (fun x => x.amt) l - lst l cs cs.length * cs.length := by
  obtain ⟨h1, h2⟩ := cut_sum hc (lst l cs cs.length) p c cs.length (Nat.le_refl _)
  rw [sgS_cyc hv hc p c] at h1
  rw [← nzl_cut hv hc]
  unfold nzl
  constructor
  · rw [sumL_filter _ _ _ (fun x _ hx => ?_), h1]
    · simp
    · have h0 : x.amt = 0 := by simpa using hx
      have := dl_sg p c x x.amt
      rw [h0, Int.zero_mul] at this
      show dl p c x = 0
      rw [← this, ← h0]
  · rw [sumL_filter _ _ _ (fun x _ hx => ?_), h2]
    simpa using hx
end
theorem chk_of {l : List Tr} (hv : vldB l = true) (hl : l.length ≤ 200) : chkE l = 0 := by
  unfold chkE
  rw [if_neg (by omega), if_pos hv]
theorem cmp_facts {l out : List Tr} (h : Cmp l out) : vldB l = true → vldB out = true ∧ out.length ≤ l.length ∧ First out [] ∧ (∀ p c, sumL (dl p c) out = sumL (dl p c) l) ∧ sumL (fun x => x.amt) out ≤ sumL (fun x => x.amt) l := by
  induction h with
  | stop l h => exact fun hv => ⟨hv, Nat.le_refl _, h, fun _ _ => rfl, Int.le_refl _⟩
  | go l x r out h k ih =>
    intro hv
    have hc := cyc_first hv h
    have h1 := torn_less hv hc
    obtain ⟨i1, i2, i3, i4, i5⟩ := ih (torn_vld hv hc)
    have hp : 0 ≤ lst l (x :: r) (x :: r).length * ((x :: r).length : Nat) := Int.mul_nonneg (by have := lst_range (l := l) (cs := x :: r) (fun j hj => (okT_at hv _ (hc.lt j hj)).2.2.2.2.1) _ (Nat.le_refl _); omega) (by omega)
    have h6 := (torn_sum hv hc ⟨#[]⟩ ⟨#[]⟩).2
    exact ⟨i1, by omega, i3, fun p c => by rw [i4, (torn_sum hv hc p c).1], by omega⟩
/-- the gross position falls -/
theorem cmp_falls {l out : List Tr} {x : Nat} {r : List Nat} (h : Cmp l out) (hv : vldB l = true) (hf : First l (x :: r)) : sumL (fun x => x.amt) out < sumL (fun x => x.amt) l := by
  rcases cmp_cases h with ⟨h1, _⟩ | ⟨x', r', h1, k⟩
  · exact absurd (hf.uniq h1) (by simp)
  · have hc := cyc_first hv h1
    have h2 := (cmp_facts k (torn_vld hv hc)).2.2.2.2
    have h6 := (torn_sum hv hc ⟨#[]⟩ ⟨#[]⟩).2
    have hp : 0 < lst l (x' :: r') (x' :: r').length * ((x' :: r').length : Nat) := Int.mul_pos (by have := lst_range (l := l) (cs := x' :: r') (fun j hj => (okT_at hv _ (hc.lt j hj)).2.2.2.2.1) _ (Nat.le_refl _); omega) (by simp only [List.length_cons]; omega)
    omega
theorem netF_sum {l : List Tr} (hc : chkE l = 0) (p c : ByteArray) : netF l p c = (if nm p && nm c then sumL (dl p c) l else 0) ∧ netE l p c = (if nm p && nm c then 0 else 2) ∧ groF l = sumL (fun x => x.amt) l := by
  refine ⟨?_, ?_, ?_⟩
  · unfold netF
    rw [if_pos hc, netK_sum l p c _ (Nat.le_refl _), List.take_length]
  · unfold netE
    rw [if_pos hc]
  · unfold groF
    rw [if_pos hc, grK_sum l _ (Nat.le_refl _), List.take_length]
end Go.Proofs.Ytpphiohppgphnaa.Cs
