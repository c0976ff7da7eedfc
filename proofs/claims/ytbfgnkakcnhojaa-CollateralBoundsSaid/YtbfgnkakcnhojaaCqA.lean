/-
  Collateral, plain: what Bounds' law compares.
-/
import Derived.Test.YtbfgnkakcnhojaaCoU
import Derived.Test.YtbfgnkakcnhojaaCoK
namespace Go.Proofs.Ytbfgnkakcnhojaa.Co
open Go.RowKit Go.Proofs.Ytbfgnkakcnhojaa Go.Proofs.Ytbfgnkakcnhojaa.Ls Go.Proofs.Ytbfgnkakcnhojaa.Kb
open Go.Proofs.Ytbfgnkakcnhojaa.Nm hiding ret_bool ret_int

/-- what the holdings count for -/
def cts (A : List As) (I L : List (ByteArray × Int)) : List Int := (gl (mkP A L) (moF I)).map Prod.snd
theorem cts_len (A : List As) (I L : List (ByteArray × Int)) : (cts A I L).length = L.length := by unfold cts; rw [List.length_map, gl_len, mkP_len]
def ctA (A : List As) (I L : List (ByteArray × Int)) (i : Nat) : Int := (cts A I L).getD i 0
/-- what is left of an issuer's Most behind the first k holdings -/
def lfA (A : List As) (I L : List (ByteArray × Int)) (k : Nat) (t : ByteArray) : Int := fin ((mkP A L).take k) (moF I) t
/-- what the first k holdings' assets of an issuer count for together -/
def sqA (A : List As) (I L : List (ByteArray × Int)) (t : ByteArray) : Nat → Int
  | 0 => 0
  | k + 1 => if (asF A (gi L k).1).iss = t then sqA A I L t k + ctA A I L k else sqA A I L t k
theorem ctA_is (A : List As) (I L : List (ByteArray × Int)) (i : Nat) (hi : i < L.length) : ctA A I L i = cvl (asF A (gi L i).1) (gi L i).2 (lfA A I L i (asF A (gi L i).1).iss) := by
  have h := gl_at (mkP A L) (moF I) i (mkP A L).length (by rw [mkP_len]; exact hi) (Nat.le_refl _) _ (mkP_take A L i hi)
  rw [List.take_of_length_le (Nat.le_refl _)] at h
  unfold ctA cts
  rw [List.getD_eq_getElem?_getD, h]
  rfl
theorem lfA_succ (A : List As) (I L : List (ByteArray × Int)) (k : Nat) (hk : k < L.length) (t : ByteArray) : lfA A I L (k + 1) t = if (asF A (gi L k).1).iss = t then lfA A I L k t - ctA A I L k else lfA A I L k t := by
  rw [ctA_is A I L k hk]
  unfold lfA
  rw [mkP_take A L k hk, fin_append]
  rfl
theorem sqA_is (A : List As) (I L : List (ByteArray × Int)) (t : ByteArray) : ∀ k, k ≤ L.length → sqA A I L t k = moF I t - lfA A I L k t := by
  intro k
  induction k with
  | zero => intro _; unfold sqA lfA; rw [List.take_zero]; show (0 : Int) = moF I t - moF I t; omega
  | succ k ih =>
    intro hk
    unfold sqA
    rw [lfA_succ A I L k (by omega) t, ih (by omega)]
    split <;> omega
theorem mkP_take_in {A : List As} {I L : List (ByteArray × Int)} (h : Fits A I L) (k : Nat) : ∀ x ∈ (mkP A L).take k, inR x := fun x hx => mkP_in h x (List.mem_of_mem_take hx)
theorem lfA_range {A : List As} {I L : List (ByteArray × Int)} (h : Fits A I L) (k : Nat) (t : ByteArray) : 0 ≤ lfA A I L k t ∧ lfA A I L k t ≤ moF I t := fin_range (mkP_take_in h k) (fun t => (moF_range h t).1) t
theorem ctA_range {A : List As} {I L : List (ByteArray × Int)} (h : Fits A I L) (i : Nat) (hi : i < L.length) : 0 ≤ ctA A I L i ∧ ctA A I L i ≤ (asF A (gi L i).1).mo ∧ ctA A I L i ≤ 35184372088832 := by
  rw [ctA_is A I L i hi]
  have hr := (asF_range h i hi).1
  have hu := h.rL i hi
  have := cvl_range hr (u := (gi L i).2) (by omega) hu.2 (lfA_range h i (asF A (gi L i).1).iss).1
  have := (prod_range hr (n := (gi L i).2) (by omega) hu.2).1
  omega
theorem lfA_mono {A : List As} {I L : List (ByteArray × Int)} (h : Fits A I L) (i : Nat) (t : ByteArray) : ∀ k, i ≤ k → k ≤ L.length → lfA A I L k t ≤ lfA A I L i t := by
  intro k
  induction k with
  | zero => intro h1 _; obtain rfl : i = 0 := by omega
            exact Int.le_refl _
  | succ k ih =>
    intro h1 h2
    by_cases e : i = k + 1
    · subst e; exact Int.le_refl _
    · have h3 := ih (by omega) (by omega)
      have h4 := ctA_range h k (by omega)
      rw [lfA_succ A I L k (by omega) t]
      split <;> omega
theorem sqA_range {A : List As} {I L : List (ByteArray × Int)} (h : Fits A I L) (t : ByteArray) (k : Nat) (hk : k ≤ L.length) : 0 ≤ sqA A I L t k ∧ sqA A I L t k ≤ 1125899906842624 ∧ sqA A I L t k ≤ moF I t := by
  rw [sqA_is A I L t k hk]
  have := lfA_range h k t
  have := moF_range h t
  omega
/-- the law's comparisons of one holding -/
theorem bounds_at {A : List As} {I L : List (ByteArray × Int)} (h : Fits A I L) (i : Nat) (hi : i < L.length) :
    ctA A I L i * 1000 ≤ (gi L i).2 * (asF A (gi L i).1).pr * (1000 - (asF A (gi L i).1).hc) ∧ ((asF A (gi L i).1).el = false → ctA A I L i = 0) ∧
      ((asF A (gi L i).1).el = true → sqA A I L (asF A (gi L i).1).iss L.length ≠ moF I (asF A (gi L i).1).iss → ctA A I L i ≠ (asF A (gi L i).1).mo → (gi L i).2 * (asF A (gi L i).1).pr * (1000 - (asF A (gi L i).1).hc) < (ctA A I L i + 1) * 1000) := by
  have hr := (asF_range h i hi).1
  have hu := h.rL i hi
  have hp := prod_range hr (n := (gi L i).2) (by omega) hu.2
  have hc := ctA_is A I L i hi
  have hs := sqA_is A I L (asF A (gi L i).1).iss L.length (Nat.le_refl _)
  have hm := lfA_mono h (i + 1) (asF A (gi L i).1).iss L.length (by omega) (Nat.le_refl _)
  have hx := lfA_succ A I L i hi (asF A (gi L i).1).iss
  rw [if_pos rfl] at hx
  have h0 := (lfA_range h L.length (asF A (gi L i).1).iss).1
  have h1 := ctA_range h i hi
  generalize sqA A I L (asF A (gi L i).1).iss L.length = S at *
  generalize lfA A I L L.length (asF A (gi L i).1).iss = lN at *
  generalize lfA A I L (i + 1) (asF A (gi L i).1).iss = l1 at *
  generalize moF I (asF A (gi L i).1).iss = M at *
  generalize ctA A I L i = c at *
  generalize lfA A I L i (asF A (gi L i).1).iss = l at *
  generalize asF A (gi L i).1 = x at *
  generalize (gi L i).2 = u at *
  have hq := red_range hr (u := u) (by omega) hu.2
  unfold cvl at hc
  generalize u * x.pr * (1000 - x.hc) = p at *
  rcases hb x.el with e | e
  · rw [e] at hc ⊢
    rw [if_pos rfl] at hc
    exact ⟨by omega, (fun h => by cases h), fun _ h2 h3 => by omega⟩
  · rw [e] at hc ⊢
    rw [if_neg (by decide)] at hc
    exact ⟨by omega, fun _ => hc, (fun h => by cases h)⟩
/-- the sum so far -/
theorem val_take {A : List As} {I L : List (ByteArray × Int)} (i : Nat) (hi : i < L.length) : val ((mkP A L).take (i + 1)) (moF I) = val ((mkP A L).take i) (moF I) + ctA A I L i :=
  val_at (mkP A L) (moF I) i (by rw [mkP_len]; exact hi) _ (mkP_take A L i hi)
theorem val_take_range {A : List As} {I L : List (ByteArray × Int)} (h : Fits A I L) (i : Nat) (hi : i ≤ L.length) : 0 ≤ val ((mkP A L).take i) (moF I) ∧ val ((mkP A L).take i) (moF I) ≤ 1125899906842624 := by
  have h1 := val_range (mkP_take_in h i) (m := moF I) (fun t => (moF_range h t).1)
  rw [List.length_take, mkP_len, Nat.min_eq_left hi] at h1
  have := h.lL
  omega
end Go.Proofs.Ytbfgnkakcnhojaa.Co
