/-
  Collateral, plain: what More's law compares; the contracts of Value, Market and Counted at any input.
-/
import Derived.Test.YtbfgnkakcnhojaaCoT
namespace Go.Proofs.Ytbfgnkakcnhojaa.Co
open Go.RowKit Go.Proofs.Ytbfgnkakcnhojaa Go.Proofs.Ytbfgnkakcnhojaa.Ls Go.Proofs.Ytbfgnkakcnhojaa.Kb
open Go.Proofs.Ytbfgnkakcnhojaa.Nm hiding ret_bool ret_int

theorem mkt_eq (P : List (As × Int)) (m : ByteArray → Int) : mkt P m = sm (P.map fun x => x.2 * x.1.pr) := by
  induction P generalizing m with
  | nil => rfl
  | cons x P ih => rw [mkt_cons, ih, List.map_cons, sm_cons]
theorem sm_append (a b : List Int) : sm (a ++ b) = sm a + sm b := by
  induction a with
  | nil => show sm b = 0 + sm b; omega
  | cons x a ih => rw [List.cons_append, sm_cons, ih, sm_cons]; omega
theorem um_lin (A : List As) (I L : List (ByteArray × Int)) (i : Nat) (u v : Int) : Um A I L i v - Um A I L i u = (v - u) * (asF A (gi L i).1).pr := by
  unfold Um
  rw [mkt_eq, mkt_eq]
  have e : ∀ w : Int, ((mkP A (pu L i w)).map fun x => x.2 * x.1.pr) = ((mkP A (L.take i)).map fun x => x.2 * x.1.pr) ++ (w * (asF A (gi L i).1).pr) :: ((mkP A (L.drop (i + 1))).map fun x => x.2 * x.1.pr) := fun w => by
    unfold pu
    rw [mkP_app, List.map_append]
    rfl
  rw [e, e, sm_append, sm_append, sm_cons, sm_cons, Int.sub_mul]
  omega
theorem wo_mkt {A : List As} {I L : List (ByteArray × Int)} (h : Fits A I L) (i : Nat) (hi : i < L.length) (n : Int) : mkt (mkP A (wo L i n)) (moF I) = Um A I L i ((gi L i).2 - n) := by
  rw [wo_pu]
  split
  · rename_i e
    rw [e]
    exact (er_val h i hi).2
  · rfl
theorem more_facts {A : List As} {I L : List (ByteArray × Int)} {t : ByteArray} {n : Int} (h : putE L t n = 0) (hf : fitB A I L = true) (hs : (fnA A t).isSome = true) :
    fitB A I (putV L t n) = true ∧ val (mkP A L) (moF I) ≤ val (mkP A (putV L t n)) (moF I) ∧ val (mkP A (putV L t n)) (moF I) - val (mkP A L) (moF I) ≤ n * (asF A t).pr ∧
      mkt (mkP A (putV L t n)) (moF I) - mkt (mkP A L) (moF I) = n * (asF A t).pr ∧ 0 ≤ n * (asF A t).pr ∧ n * (asF A t).pr ≤ 35184372088832 := by
  obtain ⟨hV, hB, _, n0, j, g1, g2, g3, g4, g5, g6, _, _, g7⟩ := put_facts h
  rw [hV]
  generalize putL L t n = M at *
  have hF : fitB A I M = true := fit_mk (fit_parts hf).1 g3 (fun k hk => by
    rcases g7 k hk with e | ⟨i, hi, e⟩
    · rw [e]; exact hs
    · rw [e]; exact (fit_parts hf).2.2 i hi)
  have hM := fits_of hF
  have ht := (fnL_at g1).2
  have e1 := wo_val hM j g2 n
  have e2 := wo_mkt hM j g2 n
  rw [g6] at e1 e2
  have e3 : Uv A I M j (gi M j).2 = val (mkP A M) (moF I) := by unfold Uv; rw [pu_self M j g2]
  have e4 : Um A I M j (gi M j).2 = mkt (mkP A M) (moF I) := by unfold Um; rw [pu_self M j g2]
  have h1 := Uv_mono hM j g2 ((gi M j).2 - n) (gi M j).2 (by omega) (by omega) g5
  have h2 := um_lin A I M j ((gi M j).2 - n) (gi M j).2
  rw [ht, show (gi M j).2 - ((gi M j).2 - n) = n by omega] at h1 h2
  have h3 := (asF_range hM j g2).1
  rw [ht] at h3
  have h4 := (prod_range h3 (n := n) (by omega) (by omega)).1
  refine ⟨hF, ?_, ?_, ?_, h4.1, h4.2⟩ <;> omega
/-- the values at any input -/
def vF (A : List As) (I L : List (ByteArray × Int)) : Int := if fitB A I L then val (mkP A L) (moF I) else 0
def mF (A : List As) (I L : List (ByteArray × Int)) : Int := if fitB A I L then mkt (mkP A L) (moF I) else 0
theorem value_q (aA aI aL : Option Addr) (cA cI cL : Nat) (A : List As) (I L : List (ByteArray × Int)) (w : World) (hnA : A.length ≤ 1000) (hnI : I.length ≤ 1000) (hnL : L.length ≤ 1000) (hZA : SzA A) (hZI : SzL I) (hZL : SzL L) (hA : AtL w 6 asc aA A) (hI : AtL w 2 isc aI I) (hL : AtL w 2 isc aL L) :
    Calls Try.prog 18 #[.agg #[.slice aA A.length cA, .slice aI I.length cI], .slice aL L.length cL] w fun e w' => e = .returned (.tuple #[.int .i64 (vF A I L), .int .i64 (eV (fitB A I L))]) ∧ Below w.heap.size w w' := by
  unfold vF
  rcases hb (fitB A I L) with h | h
  · rw [h]
    exact pvalue_yes aA aI aL cA cI cL A I L w hnA hnI hnL hZA hZI hZL hA hI hL h
  · rw [h]
    exact pvalue_no aA aI aL cA cI cL A I L w hnA hnI hnL hZA hZI hZL hA hI hL h
theorem market_q (aA aI aL : Option Addr) (cA cI cL : Nat) (A : List As) (I L : List (ByteArray × Int)) (w : World) (hnA : A.length ≤ 1000) (hnI : I.length ≤ 1000) (hnL : L.length ≤ 1000) (hZA : SzA A) (hZI : SzL I) (hZL : SzL L) (hA : AtL w 6 asc aA A) (hI : AtL w 2 isc aI I) (hL : AtL w 2 isc aL L) :
    Calls Try.prog 14 #[.agg #[.slice aA A.length cA, .slice aI I.length cI], .slice aL L.length cL] w fun e w' => e = .returned (.tuple #[.int .i64 (mF A I L), .int .i64 (eV (fitB A I L))]) ∧ Below w.heap.size w w' := by
  unfold mF
  rcases hb (fitB A I L) with h | h
  · rw [h]
    exact market_yes aA aI aL cA cI cL A I L w hnA hnI hnL hZA hZI hZL hA hI hL h
  · rw [h]
    exact market_no aA aI aL cA cI cL A I L w hnA hnI hnL hZA hZI hZL hA hI hL h
theorem eV_range (b : Bool) : (b = true ∧ eV b = 0) ∨ (b = false ∧ eV b = 8) := by cases b <;> simp [eV]
theorem putV_len (L : List (ByteArray × Int)) (t : ByteArray) (n : Int) : (putV L t n).length ≤ L.length + 1 := by
  by_cases h : putE L t n = 0
  · have := put_facts h
    rw [this.1]
    obtain ⟨_, _, _, _, j, _, _, _, _, _, _, g, _⟩ := this
    exact g
  · unfold putV
    rw [if_neg h]
    exact Nat.zero_le _
theorem putV_sz {L : List (ByteArray × Int)} (hZ : SzL L) {t : ByteArray} (ht : t.size ≤ maxLen) (n : Int) : SzL (putV L t n) := by
  by_cases h : putE L t n = 0
  · have := put_facts h
    rw [this.1]
    obtain ⟨_, _, _, _, j, _, _, _, _, _, _, _, _, g⟩ := this
    intro k
    rcases Nat.lt_or_ge k (putL L t n).length with hk | hk
    · rcases g k hk with e | ⟨i, _, e⟩
      · rw [e]; exact ht
      · rw [e]; exact hZ i
    · rw [gi_get, List.getElem?_eq_none hk]
      exact Nat.zero_le _
  · unfold putV
    rw [if_neg h]
    exact fun k => Nat.zero_le _
end Go.Proofs.Ytbfgnkakcnhojaa.Co
