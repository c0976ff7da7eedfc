/-
  Margin, plain: the opposite portfolio; a portfolio as the join of its positions.
-/
import Derived.Test.YtmljjofpbonplaaMgJ2
namespace Go.Proofs.Ytmljjofpbonplaa.Mg
open Go.RowKit Go.Proofs.Ytmljjofpbonplaa Go.Proofs.Ytmljjofpbonplaa.Nm Go.Proofs.Ytmljjofpbonplaa.Ls

/-- the opposite quantity, as the machine counts -/
def ng (q : Int) : Int := IntKind.i64.wrap (-q)
theorem ng_in {q : Int} (h : -9223372036854775807 ≤ q ∧ q ≤ 9223372036854775807) : ng q = -q := IntWalk.i64_in _ (by omega)
theorem ng_min : ng (-9223372036854775808) = -9223372036854775808 := by decide
theorem ng_R {q : Int} (h : i64R q) : i64R (ng q) := by
  unfold i64R at *
  rcases (show q = -9223372036854775808 ∨ -9223372036854775807 ≤ q by omega) with rfl | h1
  · rw [ng_min]; omega
  · rw [ng_in ⟨h1, h.2⟩]; omega
theorem ng_q {q : Int} (h : i64R q) : (ng q ≠ 0 ↔ q ≠ 0) ∧ inQ (ng q) = inQ q := by
  unfold i64R at h
  rcases (show q = -9223372036854775808 ∨ -9223372036854775807 ≤ q by omega) with rfl | h1
  · rw [ng_min]; exact ⟨Iff.rfl, rfl⟩
  · rw [ng_in ⟨h1, h.2⟩]
    refine ⟨by omega, ?_⟩
    unfold inQ
    exact decide_eq_decide.2 (by omega)
def ngL (xs : PL) : PL := xs.map fun z => (z.1, ng z.2)
theorem ngL_len (xs : PL) : (ngL xs).length = xs.length := by simp [ngL]
theorem ngL_ok {xs : PL} (h : PLok xs) : PLok (ngL xs) := by
  refine ⟨by rw [ngL_len]; exact h.n, fun z hz => ?_, fun z hz => ?_⟩
  · obtain ⟨u, hu, rfl⟩ := List.mem_map.1 hz
    exact h.s u hu
  · obtain ⟨u, hu, rfl⟩ := List.mem_map.1 hz
    exact ng_R (h.q u hu)
theorem ngL_srt (xs : PL) : Srt (ngL xs) ↔ Srt xs := by
  induction xs with
  | nil => exact Iff.rfl
  | cons x xs ih =>
    show ((∀ y ∈ ngL xs, lt x.1 y.1 = true) ∧ Srt (ngL xs)) ↔ ((∀ y ∈ xs, lt x.1 y.1 = true) ∧ Srt xs)
    rw [ih]
    constructor
    · exact fun h => ⟨fun y hy => h.1 (y.1, ng y.2) (List.mem_map.2 ⟨y, hy, rfl⟩), h.2⟩
    · refine fun h => ⟨fun y hy => ?_, h.2⟩
      obtain ⟨u, hu, rfl⟩ := List.mem_map.1 hy
      exact h.1 u hu
theorem ngL_good {xs : PL} (h : PLok xs) : PLgood (ngL xs) ↔ PLgood xs := by
  constructor
  · intro k
    refine ⟨by rw [← ngL_len]; exact k.n, (ngL_srt xs).1 k.srt, fun z hz => ?_⟩
    have h1 := k.each (z.1, ng z.2) (List.mem_map.2 ⟨z, hz, rfl⟩)
    have h2 := ng_q (h.q z hz)
    exact ⟨h1.1, h2.1.1 h1.2.1, by rw [← h2.2]; exact h1.2.2⟩
  · intro k
    refine ⟨by rw [ngL_len]; exact k.n, (ngL_srt xs).2 k.srt, fun z hz => ?_⟩
    obtain ⟨u, hu, rfl⟩ := List.mem_map.1 hz
    have h1 := k.each u hu
    have h2 := ng_q (h.q u hu)
    exact ⟨h1.1, h2.1.2 h1.2.1, by rw [← h1.2.2]; exact h2.2⟩
theorem ngL_fit {g : Gr} {xs : PL} (h : PLok xs) (a b : Option Addr) (c d : Nat) : fit g (pfl b d (ngL xs)) = fit g (pfl a c xs) := by
  rw [Bool.eq_iff_iff, fit_L, fit_L, ngL_good h]
  constructor
  · exact fun k => ⟨k.1, k.2.1, fun z hz => k.2.2 (z.1, ng z.2) (List.mem_map.2 ⟨z, hz, rfl⟩)⟩
  · refine fun k => ⟨k.1, k.2.1, fun z hz => ?_⟩
    obtain ⟨u, hu, rfl⟩ := List.mem_map.1 hz
    exact k.2.2 u hu
theorem inQ_bd {q : Int} (h : inQ q = true) : -1048576 ≤ q ∧ q ≤ 1048576 := of_decide_eq_true h
theorem ngL_sums {g : Gr} {xs : PL} (h : PLgood xs) : (∀ s, sumL (lsH g s) (ngL xs) = -(sumL (lsH g s) xs)) ∧ sumL (adH g) (ngL xs) = sumL (adH g) xs ∧ mg xs (ngL xs) = xs.map fun z => (z.1, 0) := by
  have he := h.each
  clear h
  induction xs with
  | nil => exact ⟨fun s => rfl, rfl, by simp [ngL, mg]⟩
  | cons x xs ih =>
    obtain ⟨i1, i2, i3⟩ := ih (fun z hz => he z (List.mem_cons_of_mem _ hz))
    have hq := inQ_bd (he x List.mem_cons_self).2.2
    have e : ngL (x :: xs) = (x.1, -x.2) :: ngL xs := by
      show (x.1, ng x.2) :: ngL xs = _
      rw [ng_in (by omega)]
    rw [e]
    refine ⟨fun s => ?_, ?_, ?_⟩
    · rw [sumL, sumL, i1 s]
      simp only [lsH, Int.neg_mul]
      omega
    · rw [sumL, sumL, i2]
      have : adH g (x.1, -x.2) = adH g x := by
        simp only [adH]
        rw [show max (-x.2) (- -x.2) = max x.2 (-x.2) by omega]
      rw [this]
    · rw [mg_eq x (x.1, -x.2) xs (ngL xs) rfl, i3]
      simp only [List.map_cons]
      rw [show x.2 + -x.2 = 0 by omega]
theorem ngL_join {xs : PL} (h : PLok xs) (k : PLgood xs) : joinE xs (ngL xs) = 0 ∧ joinL xs (ngL xs) = [] := by
  have k2 := (ngL_good h).2 k
  have hm := (ngL_sums (g := ⟨none, 0, 0, none, 0, 0, fun _ => 0, fun _ => ⟨⟨#[]⟩, none, 0, 0, fun _ => 0, 0⟩⟩) k).2.2
  have hj : jn xs (ngL xs) = [] := by
    unfold jn
    rw [hm, List.filter_eq_nil_iff]
    intro z hz
    obtain ⟨u, _, rfl⟩ := List.mem_map.1 hz
    simp
  have he : joinE xs (ngL xs) = 0 := by
    unfold joinE
    rw [(okL_iff _).2 k, (okL_iff _).2 k2, if_pos (show (true && true) = true from rfl), if_pos, hj]
    · rfl
    · rw [hm, List.all_eq_true]
      intro z hz
      obtain ⟨u, _, rfl⟩ := List.mem_map.1 hz
      rfl
  refine ⟨he, ?_⟩
  unfold joinL
  rw [if_pos he, hj]
theorem nil_marg {g : Gr} {a : Option Addr} {c : Nat} {xs : PL} (h : fit g (pfl a c xs) = true) : fit g (pfl none 0 []) = true ∧ margV g (pfl none 0 []) = 0 := by
  have hg := ((fit_L g a c xs).1 h).1
  have hf : fit g (pfl none 0 []) = true := (fit_L g none 0 []).2 ⟨hg, ⟨Nat.zero_le _, trivial, fun z hz => (by cases hz)⟩, fun z hz => (by cases hz)⟩
  refine ⟨hf, ?_⟩
  unfold margV
  rw [wBase_fit hf, addV_fit hf]
  have h1 := bestUp_le (ctD g (pfl none 0 [])) g.nw 0 (Int.le_refl _) (fun i hi => by
    have : ctD g (pfl none 0 []) i = cnt 0 (g.W i) := by unfold ctD; rw [loss_sum]; rfl
    rw [this]
    simp [cnt])
  have h2 := bestUp_nonneg (ctD g (pfl none 0 [])) g.nw
  have h3 : sumL (adH g) [] = 0 := rfl
  omega

/-! ### position by position -/
theorem one_good {xs : PL} (h : PLgood xs) (x : ByteArray × Int) (hx : x ∈ xs) : PLgood [x] :=
  ⟨by simp, ⟨fun y hy => (by cases hy), trivial⟩, fun z hz => by rw [List.mem_singleton.1 hz]; exact h.each x hx⟩
theorem drop_good {xs : PL} (h : PLgood xs) (k : Nat) : PLgood (xs.drop k) := by
  refine ⟨by have := h.n; simp; omega, ?_, fun z hz => h.each z (List.mem_of_mem_drop hz)⟩
  have hs := h.srt
  clear h
  induction k generalizing xs with
  | zero => simpa using hs
  | succ k ih =>
    cases xs with
    | nil => trivial
    | cons x xs => simpa using ih hs.2
theorem drop_join {xs : PL} (h : PLgood xs) (k : Nat) (hk : k < xs.length) : joinE (xs.drop (k + 1)) [xs[k]] = 0 ∧ joinL (xs.drop (k + 1)) [xs[k]] = xs.drop k := by
  have e : xs.drop k = xs[k] :: xs.drop (k + 1) := List.drop_eq_getElem_cons hk
  have g1 := drop_good h (k + 1)
  have g2 := drop_good h k
  have g3 := one_good h xs[k] (List.getElem_mem hk)
  rw [e] at g2
  have hm : mg (xs.drop (k + 1)) [xs[k]] = xs.drop k := by
    rw [e]
    have hs := g2.srt
    generalize xs.drop (k + 1) = l at *
    cases l with
    | nil => rw [mg_nil']
    | cons y l => rw [mg_gt _ _ _ _ (hs.1 y List.mem_cons_self), mg_nil]
  have hj : jn (xs.drop (k + 1)) [xs[k]] = xs.drop k := by
    unfold jn
    rw [hm, List.filter_eq_self]
    intro z hz
    have := (h.each z (List.mem_of_mem_drop hz)).2.1
    simp [this]
  have he : joinE (xs.drop (k + 1)) [xs[k]] = 0 := by
    unfold joinE
    rw [(okL_iff _).2 g1, (okL_iff _).2 g3, if_pos (show (true && true) = true from rfl), if_pos, hj, if_pos (by have := h.n; simp; omega)]
    rw [hm, List.all_eq_true]
    exact fun z hz => (h.each z (List.mem_of_mem_drop hz)).2.2
  refine ⟨he, ?_⟩
  unfold joinL
  rw [if_pos he, hj]
theorem one_fit {g : Gr} {a b : Option Addr} {c d : Nat} {xs : PL} (h : fit g (pfl a c xs) = true) (k : Nat) (hk : k < xs.length) : fit g (pfl b d [xs[k]]) = true := by
  obtain ⟨h1, h2, h3⟩ := (fit_L g a c xs).1 h
  exact (fit_L g b d _).2 ⟨h1, one_good h2 _ (List.getElem_mem hk), fun z hz => by rw [List.mem_singleton.1 hz]; exact h3 _ (List.getElem_mem hk)⟩
theorem drop_fit {g : Gr} {a b : Option Addr} {c d : Nat} {xs : PL} (h : fit g (pfl a c xs) = true) (k : Nat) : fit g (pfl b d (xs.drop k)) = true := by
  obtain ⟨h1, h2, h3⟩ := (fit_L g a c xs).1 h
  exact (fit_L g b d _).2 ⟨h1, drop_good h2 k, fun z hz => h3 z (List.mem_of_mem_drop hz)⟩
theorem marg_any (g : Gr) (a b : Option Addr) (c d : Nat) (xs : PL) : margV g (pfl a c xs) = margV g (pfl b d xs) := rfl
theorem drop_marg {g : Gr} {a : Option Addr} {c : Nat} {xs : PL} (h : fit g (pfl a c xs) = true) (k : Nat) (hk : k < xs.length) :
    margV g (pfl none 0 (xs.drop k)) ≤ margV g (pfl none 0 (xs.drop (k + 1))) + margV g (pfl none 0 [xs[k]]) := by
  have hj := drop_join ((fit_L g a c xs).1 h).2.1 k hk
  have := join_fit (d := none) (cd := 0) (drop_fit (b := none) (d := 0) h (k + 1)) (one_fit (b := none) (d := 0) h k hk) hj.1
  rw [hj.2] at this
  unfold margV
  omega
theorem margV_bd (g : Gr) (l : Pf) : 0 ≤ margV g l ∧ margV g l ≤ 562949953421312 := by
  have h1 := wBase_bd g l
  have h2 := addV_bd g l
  unfold margV
  omega
end Go.Proofs.Ytmljjofpbonplaa.Mg
