/-
  Compress, plain: the reference's distances, found by going over all trades again and again.
-/
import Derived.Test.YtpphiohppgphnaaCz1
namespace Go.Proofs.Ytpphiohppgphnaa.Cz

def oi (out : List Int) (i : Nat) : Int := out.getD i 0
theorem oi_set (out : List Int) (i j : Nat) (v : Int) (hi : i < out.length) : oi (out.set i v) j = if j = i then v else oi out j := by
  unfold oi
  rw [List.getD_eq_getElem?_getD, List.getD_eq_getElem?_getD, List.getElem?_set]
  by_cases h : j = i
  · rw [if_pos h, if_pos h.symm, if_pos hi]; rfl
  · rw [if_neg h, if_neg (fun e => h e.symm)]
/-- how many are set; the sum that falls -/
def cnt (out : List Int) : Nat := (out.filter fun x => decide (0 ≤ x)).length
def msr (n : Nat) (out : List Int) : Nat := (out.map fun x => if x < 0 then n else x.toNat).sum
theorem cnt_set (out : List Int) (i : Nat) (v : Int) (hi : i < out.length) (hv : 0 ≤ v) : (oi out i < 0 → cnt (out.set i v) = cnt out + 1) ∧ (0 ≤ oi out i → cnt (out.set i v) = cnt out) := by
  induction out generalizing i with
  | nil => cases hi
  | cons x m ih =>
    cases i with
    | zero =>
      have e : oi (x :: m) 0 = x := rfl
      rw [e]
      unfold cnt
      rw [List.set_cons_zero, List.filter_cons_of_pos (by simpa using hv)]
      refine ⟨fun h => ?_, fun h => ?_⟩
      · rw [List.filter_cons_of_neg (by simp; omega)]; rfl
      · rw [List.filter_cons_of_pos (by simpa using h)]; rfl
    | succ i =>
      have e : oi (x :: m) (i + 1) = oi m i := rfl
      have := ih i (by simpa using hi)
      rw [e]
      unfold cnt at this ⊢
      rw [List.set_cons_succ, List.filter_cons, List.filter_cons]
      split
      · simp only [List.length_cons]
        exact ⟨fun h => by rw [this.1 h], fun h => by rw [this.2 h]⟩
      · exact this
theorem cnt_lt (out : List Int) (i : Nat) (hi : i < out.length) (h : oi out i < 0) : cnt out < out.length := by
  induction out generalizing i with
  | nil => cases hi
  | cons x m ih =>
    have hm : cnt m ≤ m.length := List.length_filter_le _ _
    cases i with
    | zero =>
      have h : x < 0 := h
      unfold cnt at hm ⊢
      rw [List.filter_cons_of_neg (by simp; omega), List.length_cons]
      omega
    | succ i =>
      have := ih i (by simpa using hi) h
      unfold cnt at this ⊢
      rw [List.filter_cons]
      split <;> simp only [List.length_cons] <;> omega
theorem msr_set (n : Nat) (out : List Int) (i : Nat) (v : Int) (hi : i < out.length) (hv : 0 ≤ v) (h1 : oi out i < 0 → v < n) (h2 : 0 ≤ oi out i → v < oi out i) : msr n (out.set i v) < msr n out := by
  induction out generalizing i with
  | nil => cases hi
  | cons x m ih =>
    cases i with
    | zero =>
      have e : oi (x :: m) 0 = x := rfl
      rw [e] at h1 h2
      unfold msr
      rw [List.set_cons_zero, List.map_cons, List.map_cons, List.sum_cons, List.sum_cons, if_neg (by omega)]
      by_cases h : x < 0
      · rw [if_pos h]; have := h1 h; omega
      · rw [if_neg h]; have := h2 (by omega); omega
    | succ i =>
      have := ih i (by simpa using hi) h1 h2
      unfold msr at this ⊢
      rw [List.set_cons_succ, List.map_cons, List.map_cons, List.sum_cons, List.sum_cons]
      omega

section
variable (l : List Tr) (c T : ByteArray)
/-- what is found so far -/
structure FarI (out : List Int) : Prop where
  len : out.length = l.length
  at_ : ∀ i, i < l.length → oi out i = -1 ∨ ∃ d : Nat, oi out i = d ∧ (gt l i).con = c ∧ Rch l c T d (gt l i).to_
  zero : ∀ i, i < l.length → (gt l i).con = c → (gt l i).to_ = T → oi out i = 0
  low : ∀ i, i < l.length → oi out i + 1 ≤ cnt out
/-- a pair of trades that is settled -/
def Okp (out : List Int) (i k : Nat) : Prop := (gt l i).con = c → (gt l k).con = c → (gt l i).to_ = (gt l k).fr → 0 ≤ oi out k → 0 ≤ oi out i ∧ oi out i ≤ oi out k + 1
/-- the result -/
def FarR (out : List Int) : Prop := out.length = l.length ∧ (∀ i, i < l.length → ((gt l i).con = c ∧ ∃ d : Nat, Dist l c T (gt l i).to_ d ∧ oi out i = d) ∨ (((gt l i).con ≠ c ∨ ∀ n, ¬ Rch l c T n (gt l i).to_) ∧ oi out i = -1)) ∧ ∀ i, i < l.length → oi out i < l.length
end
section
variable {l : List Tr} {c T : ByteArray} {out : List Int}
theorem far_step (h : FarI l c T out) {i k : Nat} (hi : i < l.length) (hk : k < l.length) (h1 : (gt l i).con = c) (h2 : (gt l k).con = c) (h3 : (gt l i).to_ = (gt l k).fr) (h4 : 0 ≤ oi out k) (h5 : oi out i < 0 ∨ oi out k + 1 < oi out i) :
    FarI l c T (out.set i (oi out k + 1)) ∧ msr l.length (out.set i (oi out k + 1)) < msr l.length out := by
  have hio : i < out.length := by rw [h.len]; exact hi
  have hc := cnt_set out i (oi out k + 1) hio (by omega)
  have hlk := h.low k hk
  have hli := h.low i hi
  refine ⟨⟨by rw [List.length_set]; exact h.len, fun j hj => ?_, fun j hj a b => ?_, fun j hj => ?_⟩, msr_set _ out i _ hio (by omega) (fun g => ?_) (fun g => by omega)⟩
  · rw [oi_set out i j _ hio]
    by_cases e : j = i
    · subst e
      rw [if_pos rfl]
      rcases h.at_ k hk with g | ⟨d, g1, g2, g3⟩
      · omega
      · exact .inr ⟨d + 1, by rw [g1]; rfl, h1, k, ⟨hk, h2, h3.symm⟩, g3⟩
    · rw [if_neg e]
      exact h.at_ j hj
  · rw [oi_set out i j _ hio]
    by_cases e : j = i
    · subst e
      have := h.zero j hj a b
      omega
    · rw [if_neg e]
      exact h.zero j hj a b
  · rw [oi_set out i j _ hio]
    have hlj := h.low j hj
    by_cases g : oi out i < 0
    · rw [hc.1 g]
      split <;> omega
    · rw [hc.2 (by omega)]
      split <;> omega
  · have := cnt_lt out i hio g
    rw [h.len] at this
    omega
theorem far_end (h : FarI l c T out) (hp : ∀ i k, i < l.length → k < l.length → Okp l c out i k) : FarR l c T out := by
  have key : ∀ n i, i < l.length → (gt l i).con = c → Rch l c T n (gt l i).to_ → 0 ≤ oi out i ∧ oi out i ≤ n := by
    intro n
    induction n with
    | zero =>
      intro i hi hc hr
      have := h.zero i hi hc hr
      omega
    | succ n ih =>
      intro i hi hc hr
      obtain ⟨k, ⟨hk, hkc, hkf⟩, hr'⟩ := hr
      have h1 := ih k hk hkc hr'
      have h2 := hp i k hi hk hc hkc hkf.symm h1.1
      omega
  refine ⟨h.len, fun i hi => ?_, fun i hi => by have h1 := h.low i hi; have h2 : cnt out ≤ out.length := List.length_filter_le _ _; have h3 := h.len; omega⟩
  rcases h.at_ i hi with g | ⟨d, g1, g2, g3⟩
  · refine .inr ⟨?_, g⟩
    by_cases hc : (gt l i).con = c
    · refine .inr fun n hn => ?_
      have := key n i hi hc hn
      omega
    · exact .inl hc
  · refine .inl ⟨g2, d, ⟨g3, fun n hn => ?_⟩, g1⟩
    have := key n i hi g2 hn
    omega
/-- the start -/
def far0 (l : List Tr) (c T : ByteArray) (k : Nat) : List Int := (l.take k).map fun x => if x.con = c ∧ x.to_ = T then 0 else -1
theorem gt_at (l : List Tr) (k : Nat) (hk : k < l.length) : gt l k = l[k] := by unfold gt; rw [List.getD_eq_getElem?_getD, List.getElem?_eq_getElem hk]; rfl
theorem far0_snoc (l : List Tr) (c T : ByteArray) (k : Nat) (hk : k < l.length) : far0 l c T (k + 1) = far0 l c T k ++ [if (gt l k).con = c ∧ (gt l k).to_ = T then 0 else -1] := by
  unfold far0
  rw [List.take_succ_eq_append_getElem hk, List.map_append, gt_at l k hk]
  rfl
theorem far0_at (l : List Tr) (c T : ByteArray) (i : Nat) (hi : i < l.length) : oi (far0 l c T l.length) i = if (gt l i).con = c ∧ (gt l i).to_ = T then 0 else -1 := by
  unfold oi far0
  rw [List.take_of_length_le (Nat.le_refl _), List.getD_eq_getElem?_getD, List.getElem?_map, List.getElem?_eq_getElem hi, gt_at l i hi]
  rfl
theorem far0_is (l : List Tr) (c T : ByteArray) : FarI l c T (far0 l c T l.length) := by
  refine ⟨by unfold far0; rw [List.length_map, List.length_take]; omega, fun i hi => ?_, fun i hi a b => ?_, fun i hi => ?_⟩
  · rw [far0_at l c T i hi]
    split
    · rename_i e
      exact .inr ⟨0, rfl, e.1, e.2⟩
    · exact .inl rfl
  · rw [far0_at l c T i hi, if_pos ⟨a, b⟩]
  · have hf := far0_at l c T i hi
    by_cases e : (gt l i).con = c ∧ (gt l i).to_ = T
    · rw [if_pos e] at hf
      rw [hf]
      have hl : i < (far0 l c T l.length).length := by unfold far0; rw [List.length_map, List.length_take]; omega
      have : 0 < cnt (far0 l c T l.length) := by
        unfold cnt
        refine List.length_pos_iff.2 fun h0 => ?_
        have hm : (0 : Int) ∈ (far0 l c T l.length).filter fun x => decide (0 ≤ x) := by
          rw [List.mem_filter]
          refine ⟨?_, rfl⟩
          unfold oi at hf
          rw [List.getD_eq_getElem?_getD, List.getElem?_eq_getElem hl] at hf
          have hf : (far0 l c T l.length)[i] = 0 := hf
          rw [← hf]
          exact List.getElem_mem _
        rw [h0] at hm
        cases hm
      omega
    · rw [if_neg e] at hf
      rw [hf]
      omega
end
end Go.Proofs.Ytpphiohppgphnaa.Cz
