/-
  Margin, plain: losses, add-ons and bases of joins.
-/
import Derived.Test.YtmljjofpbonplaaMg20
import Derived.Test.YtmljjofpbonplaaMg19
namespace Go.Proofs.Ytmljjofpbonplaa.Mg
open Go.RowKit Go.Proofs.Ytmljjofpbonplaa Go.Proofs.Ytmljjofpbonplaa.Nm Go.Proofs.Ytmljjofpbonplaa.Ls

def sumL (h : ByteArray × Int → Int) : PL → Int
  | [] => 0
  | z :: zs => h z + sumL h zs
theorem sumL_append (h : ByteArray × Int → Int) (xs ys : PL) : sumL h (xs ++ ys) = sumL h xs + sumL h ys := by
  induction xs with
  | nil => simp [sumL]
  | cons x xs ih => rw [List.cons_append, sumL, sumL, ih]; omega
theorem sumL_mg (h : ByteArray × Int → Int) (hl : ∀ n p q, h (n, p + q) = h (n, p) + h (n, q)) (xs ys : PL) : sumL h (mg xs ys) = sumL h xs + sumL h ys := by
  fun_induction mg xs ys with
  | case1 ys => simp [sumL]
  | case2 x xs => simp [sumL]
  | case3 x xs y ys k ih => simp only [sumL] at *; omega
  | case4 x xs y ys k k2 ih => simp only [sumL] at *; omega
  | case5 x xs y ys k k2 ih =>
    have e : x.1 = y.1 := lt_total (by simpa using k) (by simpa using k2)
    have := hl x.1 x.2 y.2
    have e2 : h y = h (x.1, y.2) := by rw [e]
    have e3 : h x = h (x.1, x.2) := rfl
    rw [sumL, ih]
    simp only [sumL]
    omega
theorem sumL_mg_le (h : ByteArray × Int → Int) (xs ys : PL) (hl : ∀ z ∈ xs, ∀ p q, h (z.1, p + q) ≤ h (z.1, p) + h (z.1, q)) : sumL h (mg xs ys) ≤ sumL h xs + sumL h ys := by
  fun_induction mg xs ys with
  | case1 ys => simp [sumL]
  | case2 x xs => simp [sumL]
  | case3 x xs y ys k ih =>
    have := ih (fun z hz => hl z (List.mem_cons_of_mem _ hz))
    simp only [sumL] at *; omega
  | case4 x xs y ys k k2 ih =>
    have := ih hl
    simp only [sumL] at *; omega
  | case5 x xs y ys k k2 ih =>
    have e : x.1 = y.1 := lt_total (by simpa using k) (by simpa using k2)
    have := hl x List.mem_cons_self x.2 y.2
    have e2 : h y = h (x.1, y.2) := by rw [e]
    have e3 : h x = h (x.1, x.2) := rfl
    have := ih (fun z hz => hl z (List.mem_cons_of_mem _ hz))
    simp only [sumL]
    omega
theorem sumL_nz (h : ByteArray × Int → Int) (hz : ∀ n, h (n, 0) = 0) (xs : PL) : sumL h (xs.filter fun z => z.2 != 0) = sumL h xs := by
  induction xs with
  | nil => rfl
  | cons x xs ih =>
    by_cases hx : x.2 = 0
    · have e : h x = 0 := by
        obtain ⟨n, q⟩ := x
        obtain rfl : q = 0 := hx
        exact hz n
      rw [List.filter_cons_of_neg (by simp [hx]), ih, sumL, e]
      omega
    · rw [List.filter_cons_of_pos (by simp [hx]), sumL, sumL, ih]
theorem sumL_take (h : ByteArray × Int → Int) (xs : PL) (k : Nat) (hk : k < xs.length) : sumL h (xs.take (k + 1)) = sumL h (xs.take k) + h xs[k] := by
  rw [List.take_succ_eq_append_getElem hk, sumL_append]
  simp [sumL]

def lsH (g : Gr) (s : Nat) (z : ByteArray × Int) : Int := -(z.2 * mvOf g.P g.np z.1 s)
def adH (g : Gr) (z : ByteArray × Int) : Int := max z.2 (-z.2) * (g.P (idx g.P g.np z.1)).fee
theorem loss_sum (g : Gr) (a : Option Addr) (c : Nat) (xs : PL) (s : Nat) : loss g (pfl a c xs) s = sumL (lsH g s) xs := by
  have : ∀ k, k ≤ xs.length → lossUp g.P g.np (pfl a c xs).T (pfl a c xs).Q k s = sumL (lsH g s) (xs.take k) := by
    intro k
    induction k with
    | zero => intro _; rfl
    | succ k ih =>
      intro hk
      rw [lossUp, ih (by omega), sumL_take _ _ _ (by omega)]
      rw [show (pfl a c xs).T k = xs[k].1 from congrArg Prod.fst (getD_at (by omega)), show (pfl a c xs).Q k = xs[k].2 from congrArg Prod.snd (getD_at (by omega))]
      unfold lsH
      omega
  have := this xs.length (Nat.le_refl _)
  rw [List.take_length] at this
  exact this
theorem add_sum (g : Gr) (a : Option Addr) (c : Nat) (xs : PL) : addUp g.P g.np (pfl a c xs).T (pfl a c xs).Q xs.length = sumL (adH g) xs := by
  have : ∀ k, k ≤ xs.length → addUp g.P g.np (pfl a c xs).T (pfl a c xs).Q k = sumL (adH g) (xs.take k) := by
    intro k
    induction k with
    | zero => intro _; rfl
    | succ k ih =>
      intro hk
      rw [addUp, ih (by omega), sumL_take _ _ _ (by omega)]
      rw [show (pfl a c xs).T k = xs[k].1 from congrArg Prod.fst (getD_at (by omega)), show (pfl a c xs).Q k = xs[k].2 from congrArg Prod.snd (getD_at (by omega))]
      rfl
  have := this xs.length (Nat.le_refl _)
  rw [List.take_length] at this
  exact this
/-- does it fit? by lists -/
theorem fit_L (g : Gr) (a : Option Addr) (c : Nat) (xs : PL) : fit g (pfl a c xs) = true ↔ gridB g.W g.nw g.P g.np = true ∧ PLgood xs ∧ ∀ z ∈ xs, hasB g.P g.np z.1 = true := by
  constructor
  · intro h
    have k := fit_ok h
    refine ⟨gridB_of k.g, (okL_iff xs).1 (pfB_of k.p), fun z hz => ?_⟩
    obtain ⟨i, hi, rfl⟩ := List.mem_iff_getElem.1 hz
    have := k.has i hi
    rwa [show (pfl a c xs).T i = xs[i].1 from congrArg Prod.fst (getD_at hi)] at this
  · rintro ⟨h1, h2, h3⟩
    refine fitB_of ⟨gridB_ok h1, pfB_ok ((okL_iff xs).2 h2), fun i hi => ?_⟩
    have hi' : i < xs.length := hi
    rw [show (pfl a c xs).T i = xs[i].1 from congrArg Prod.fst (getD_at hi')]
    exact h3 _ (List.getElem_mem hi')
theorem fit_same (g : Gr) (a b : Option Addr) (c d : Nat) (xs : PL) : fit g (pfl a c xs) = fit g (pfl b d xs) := rfl
theorem joinE_cases (xs ys : PL) : (joinE xs ys = 0 ∧ PLgood xs ∧ PLgood ys ∧ (∀ z ∈ mg xs ys, inQ z.2 = true) ∧ (jn xs ys).length ≤ 32) ∨ joinE xs ys ≠ 0 := by
  unfold joinE
  by_cases h : (okL xs && okL ys) = true
  · rw [if_pos h]
    rw [Bool.and_eq_true] at h
    by_cases h2 : ((mg xs ys).all fun z => inQ z.2) = true
    · rw [if_pos h2]
      by_cases h3 : (jn xs ys).length ≤ 32
      · rw [if_pos h3]
        exact .inl ⟨rfl, (okL_iff _).1 h.1, (okL_iff _).1 h.2, List.all_eq_true.1 h2, h3⟩
      · rw [if_neg h3]
        exact .inr (by omega)
    · rw [if_neg h2]
      exact .inr (by omega)
  · rw [if_neg h]
    exact .inr (by omega)
theorem srt_filter {xs : PL} (f : ByteArray × Int → Bool) (h : Srt xs) : Srt (xs.filter f) := by
  induction xs with
  | nil => trivial
  | cons x xs ih =>
    by_cases hx : f x = true
    · rw [List.filter_cons_of_pos hx]
      exact ⟨fun y hy => h.1 y (List.mem_filter.1 hy).1, ih h.2⟩
    · rw [List.filter_cons_of_neg hx]
      exact ih h.2
theorem jn_good {xs ys : PL} (hx : PLgood xs) (hy : PLgood ys) (hq : ∀ z ∈ mg xs ys, inQ z.2 = true) (hn : (jn xs ys).length ≤ 32) : PLgood (jn xs ys) := by
  refine ⟨hn, srt_filter _ (mg_srt hx.srt hy.srt), fun z hz => ?_⟩
  have h := List.mem_filter.1 hz
  refine ⟨?_, by simpa using h.2, hq z h.1⟩
  rcases mg_mem h.1 with ⟨u, hu, e⟩ | ⟨u, hu, e⟩
  · rw [← e]; exact (hx.each u hu).1
  · rw [← e]; exact (hy.each u hu).1
theorem jn_has {g : Gr} {xs ys : PL} (hx : ∀ z ∈ xs, hasB g.P g.np z.1 = true) (hy : ∀ z ∈ ys, hasB g.P g.np z.1 = true) : ∀ z ∈ jn xs ys, hasB g.P g.np z.1 = true := by
  intro z hz
  rcases mg_mem (List.mem_filter.1 hz).1 with ⟨u, hu, e⟩ | ⟨u, hu, e⟩
  · rw [← e]; exact hx u hu
  · rw [← e]; exact hy u hu
theorem joinE_comm (xs ys : PL) : joinE xs ys = joinE ys xs := by
  unfold joinE jn
  rw [mg_comm xs ys, Bool.and_comm]
theorem joinL_comm (xs ys : PL) : joinL xs ys = joinL ys xs := by
  unfold joinL jn
  rw [joinE_comm xs ys, mg_comm xs ys]
theorem cnt_sub (x y w : Int) (hw : 0 < w) : cnt (x + y) w ≤ cnt x w + cnt y w := by
  have hx := cnt_nonneg x w hw
  have hy := cnt_nonneg y w hw
  unfold cnt at *
  by_cases h : x + y ≤ 0
  · rw [if_pos h]; omega
  · rw [if_neg h]
    by_cases h1 : x ≤ 0
    · rw [if_pos h1] at hx ⊢
      have := Int.mul_nonpos_of_nonpos_of_nonneg h1 (Int.le_of_lt hw)
      rw [if_neg (by omega : ¬ y ≤ 0), Int.add_mul]
      omega
    · by_cases h2 : y ≤ 0
      · rw [if_pos h2] at hy ⊢
        have := Int.mul_nonpos_of_nonpos_of_nonneg h2 (Int.le_of_lt hw)
        rw [if_neg h1, Int.add_mul]
        omega
      · rw [if_neg h1, if_neg h2, Int.add_mul]
        omega
theorem bestUp_sub (f f1 f2 : Nat → Int) (n : Nat) (h : ∀ i, i < n → f i ≤ f1 i + f2 i) : (bestUp f n).2 ≤ (bestUp f1 n).2 + (bestUp f2 n).2 := by
  have h1 := bestUp_nonneg f1 n
  have h2 := bestUp_nonneg f2 n
  refine bestUp_le f n _ (by omega) (fun i hi => ?_)
  have := h i hi
  have := bestUp_ge f1 n i hi
  have := bestUp_ge f2 n i hi
  omega
theorem wBase_fit {g : Gr} {l : Pf} (h : fit g l = true) : wBase g l = (bestUp (ctD g l) g.nw).2 := by unfold wBase; rw [if_pos h, best_doc h]
theorem addV_fit {g : Gr} {a : Option Addr} {c : Nat} {xs : PL} (h : fit g (pfl a c xs) = true) : addV g (pfl a c xs) = sumL (adH g) xs := by
  unfold addV
  rw [if_pos h]
  exact add_sum g a c xs
/-- what a join of two fitting portfolios is -/
theorem join_fit {g : Gr} {a b d : Option Addr} {ca cb cd : Nat} {xs ys : PL} (hx : fit g (pfl a ca xs) = true) (hy : fit g (pfl b cb ys) = true) (hj : joinE xs ys = 0) :
    fit g (pfl d cd (joinL xs ys)) = true ∧ (∀ s, loss g (pfl d cd (joinL xs ys)) s = loss g (pfl a ca xs) s + loss g (pfl b cb ys) s) ∧
      wBase g (pfl d cd (joinL xs ys)) ≤ wBase g (pfl a ca xs) + wBase g (pfl b cb ys) ∧ addV g (pfl d cd (joinL xs ys)) ≤ addV g (pfl a ca xs) + addV g (pfl b cb ys) := by
  have hl : joinL xs ys = jn xs ys := by unfold joinL; rw [if_pos hj]
  rw [hl]
  rcases joinE_cases xs ys with ⟨_, h1, h2, h3, h4⟩ | h
  · obtain ⟨gx, _, px⟩ := (fit_L g a ca xs).1 hx
    obtain ⟨_, _, py⟩ := (fit_L g b cb ys).1 hy
    have hf : fit g (pfl d cd (jn xs ys)) = true := (fit_L g d cd _).2 ⟨gx, jn_good h1 h2 h3 h4, jn_has px py⟩
    have hloss : ∀ s, loss g (pfl d cd (jn xs ys)) s = loss g (pfl a ca xs) s + loss g (pfl b cb ys) s := by
      intro s
      rw [loss_sum, loss_sum, loss_sum]
      unfold jn
      rw [sumL_nz _ (fun n => by simp [lsH]), sumL_mg _ (fun n p q => by simp only [lsH, Int.add_mul]; omega)]
    refine ⟨hf, hloss, ?_, ?_⟩
    · rw [wBase_fit hf, wBase_fit hx, wBase_fit hy]
      refine bestUp_sub _ _ _ _ (fun i hi => ?_)
      unfold ctD
      rw [hloss i]
      exact cnt_sub _ _ _ (by have := (gridB_ok gx).ws i hi; omega)
    · rw [addV_fit hf, addV_fit hx, addV_fit hy]
      unfold jn
      rw [sumL_nz _ (fun n => by simp [adH])]
      refine sumL_mg_le _ _ _ (fun z hz p q => ?_)
      have hfee := (gridB_ok gx).fee _ (idx_spec (px z hz)).1
      unfold adH
      simp only
      generalize (g.P (idx g.P g.np z.1)).fee = f at *
      rw [← Int.add_mul]
      exact Int.mul_le_mul_of_nonneg_right (by omega) hfee.1
  · exact absurd hj h
theorem joinE_codes (xs ys : PL) : joinE xs ys = 0 ∨ joinE xs ys = 4 ∨ joinE xs ys = 8 ∨ joinE xs ys = 52 := by
  unfold joinE
  split
  · split
    · split <;> simp
    · simp
  · simp
end Go.Proofs.Ytmljjofpbonplaa.Mg
