/-
  Collateral, plain: right holdings stay right when units are taken away; what Release's law compares.
-/
import Derived.Test.YtbfgnkakcnhojaaCoM
namespace Go.Proofs.Ytbfgnkakcnhojaa.Co
open Go.RowKit Go.Proofs.Ytbfgnkakcnhojaa Go.Proofs.Ytbfgnkakcnhojaa.Ls Go.Proofs.Ytbfgnkakcnhojaa.Kb
open Go.Proofs.Ytbfgnkakcnhojaa.Nm hiding ret_bool ret_int

theorem elB_mk {ok : Nat → Bool} {f : Nat → ByteArray} {n : Nat} (h : ∀ i, i < n → ok i = true) (hs : Sorted n f) : ∀ i, i < n → elB ok f i = true := by
  intro i hi
  unfold elB
  rw [h i hi, Bool.true_and, Bool.or_eq_true]
  rcases Nat.eq_zero_or_pos i with e | e
  · exact .inl (by rw [decide_eq_false (by omega)]; rfl)
  · exact .inr (hs i e hi)
theorem holB_mk {L : List (ByteArray × Int)} (h32 : L.length ≤ 32) (hs : Sorted L.length fun i => (gi L i).1) (h : ∀ i, i < L.length → nm (gi L i).1 = true ∧ 1 ≤ (gi L i).2 ∧ (gi L i).2 ≤ 1048576) : holB L = true := by
  unfold holB
  rw [decide_eq_true h32, Bool.true_and]
  refine allB_yes fun i hi => elB_mk (fun i hi => ?_) hs i hi
  unfold holOK
  rw [(h i hi).1, decide_eq_true (h i hi).2.1, decide_eq_true (h i hi).2.2]
  rfl
theorem fit_parts {A : List As} {I L : List (ByteArray × Int)} (h : fitB A I L = true) : tabB A I = true ∧ holB L = true ∧ ∀ i, i < L.length → (fnA A (gi L i).1).isSome = true := by
  have hf := fits_of h
  unfold fitB at h
  rw [Bool.and_eq_true, Bool.and_eq_true] at h
  exact ⟨h.1.1, h.1.2, hf.fL⟩
theorem fit_mk {A : List As} {I L : List (ByteArray × Int)} (h1 : tabB A I = true) (h2 : holB L = true) (h3 : ∀ i, i < L.length → (fnA A (gi L i).1).isSome = true) : fitB A I L = true := by
  unfold fitB
  rw [h1, h2, Bool.true_and, Bool.true_and]
  exact allB_yes h3
theorem hol_pu {L : List (ByteArray × Int)} (h : holB L = true) (i : Nat) (hi : i < L.length) (v : Int) (h0 : 1 ≤ v) (h1 : v ≤ 1048576) : holB (pu L i v) = true := by
  have hn : ∀ j, (gi (pu L i v) j).1 = (gi L j).1 := fun j => by
    rw [gi_pu L i hi]
    split
    · rename_i e
      rw [e]
    · rfl
  refine holB_mk (by rw [pu_len L i hi]; exact holB_len h) ?_ ?_
  · intro j hj hl
    show lt (gi _ (j - 1)).1 (gi _ j).1 = true
    rw [hn, hn]
    exact holB_sorted h j hj (by rwa [pu_len L i hi] at hl)
  · intro j hj
    rw [pu_len L i hi] at hj
    refine ⟨by rw [hn]; exact (holB_at h j hj).1, ?_⟩
    rw [gi_pu L i hi]
    split
    · exact ⟨h0, h1⟩
    · exact (holB_at h j hj).2
theorem hol_er {L : List (ByteArray × Int)} (h : holB L = true) (i : Nat) (hi : i < L.length) : holB (L.take i ++ L.drop (i + 1)) = true := by
  have hl := er_len L i hi
  have h32 := holB_len h
  have hs := holB_sorted h
  refine holB_mk (by omega) ?_ ?_
  · intro j hj hjl
    rw [hl] at hjl
    show lt (gi _ (j - 1)).1 (gi _ j).1 = true
    rw [gi_er L i hi, gi_er L i hi]
    split <;> split
    · exact hs j hj (by omega)
    · exact hs.lt (j - 1) (j + 1) (by omega) (by omega)
    · omega
    · exact hs.lt (j - 1 + 1) (j + 1) (by omega) (by omega)
  · intro j hj
    rw [hl] at hj
    rw [gi_er L i hi]
    split
    · exact holB_at h j (by omega)
    · exact holB_at h (j + 1) (by omega)
theorem hol_wo {L : List (ByteArray × Int)} (h : holB L = true) (i : Nat) (hi : i < L.length) (n : Int) (h0 : 0 ≤ n) (h1 : n ≤ (gi L i).2) : holB (wo L i n) = true := by
  have := (holB_at h i hi).2
  rw [wo_pu]
  split
  · exact hol_er h i hi
  · exact hol_pu h i hi _ (by omega) (by omega)
theorem fit_wo {A : List As} {I L : List (ByteArray × Int)} (h : fitB A I L = true) (i : Nat) (hi : i < L.length) (n : Int) (h0 : 0 ≤ n) (h1 : n ≤ (gi L i).2) : fitB A I (wo L i n) = true :=
  fit_mk (fit_parts h).1 (hol_wo (fit_parts h).2.1 i hi n h0 h1) (wo_fits (fits_of h) i hi n h0 h1).fL
theorem wo_len (L : List (ByteArray × Int)) (i : Nat) (hi : i < L.length) (n : Int) : (wo L i n).length ≤ L.length := by
  rw [wo_pu]
  split
  · rw [er_len L i hi]; omega
  · rw [pu_len L i hi]; exact Nat.le_refl _
theorem wo_sz {L : List (ByteArray × Int)} (h : SzL L) (i : Nat) (hi : i < L.length) (n : Int) : SzL (wo L i n) := by
  intro j
  rw [wo_pu]
  split
  · rw [gi_er L i hi]
    split <;> exact h _
  · rw [gi_pu L i hi]
    split
    · exact h i
    · exact h j
theorem take_ok {L : List (ByteArray × Int)} {t : ByteArray} {J : Nat} (hB : holB L = true) (hf : fnL L t = some J) (n : Int) (h1 : 1 ≤ n) (h2 : n ≤ (gi L J).2) : takE L t n = 0 ∧ takV L t n = wo L J n := by
  obtain ⟨hJ, hn⟩ := fnL_at hf
  have hat := holB_at hB J hJ
  have ha : askE L t n = 0 := by
    unfold askE
    rw [if_pos hB, ← hn, hat.1, Bool.true_and, if_pos (decide_eq_true (by omega))]
  have he : takE L t n = 0 := by
    unfold takE
    rw [if_pos ha, hf]
    exact if_neg (by omega)
  refine ⟨he, ?_⟩
  unfold takV
  rw [he, if_pos rfl, hf]
/-- what Release's law compares -/
theorem rel_facts {A : List As} {I L : List (ByteArray × Int)} {i : Nat} {need r : Int} (hf : fitB A I L = true) (hi : i < L.length) (_h4 : need ≤ val (mkP A L) (moF I)) (h : Rel (fun n => Uv A I L i ((gi L i).2 - n)) (gi L i).2 need r) :
    0 ≤ r ∧ r ≤ (gi L i).2 ∧ need ≤ val (mkP A (wo L i r)) (moF I) ∧ val (mkP A (wo L i r)) (moF I) ≤ val (mkP A L) (moF I) ∧ (r < (gi L i).2 → val (mkP A (wo L i (r + 1))) (moF I) < need) := by
  obtain ⟨r0, r1, r2, r3⟩ := h
  have hF := fits_of hf
  have hu := hF.rL i hi
  rw [wo_val hF i hi, wo_val hF i hi]
  refine ⟨r0, r1, r2, ?_, fun hr => r3 (r + 1) (by omega) (by omega)⟩
  have := (Uv_mono hF i hi ((gi L i).2 - r) (gi L i).2 (by omega) (by omega) (by omega)).1
  have e : Uv A I L i (gi L i).2 = val (mkP A L) (moF I) := by unfold Uv; rw [pu_self L i hi]
  omega
end Go.Proofs.Ytbfgnkakcnhojaa.Co
