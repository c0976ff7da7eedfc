/-
  Margin's reference: the walk of Twin.
-/
import Derived.Test.YtmljjofpbonplaaMg25
import Derived.Test.YtmljjofpbonplaaLs3
namespace Go.Proofs.Ytmljjofpbonplaa.Mg
open Go.RowKit Go.Proofs.Ytmljjofpbonplaa Go.Proofs.Ytmljjofpbonplaa.Nm Go.Proofs.Ytmljjofpbonplaa.Ls

def ic (z : Int) : List Value := [.int .i64 z]
theorem ic_len (z : Int) : (ic z).length = 1 := rfl
theorem ic_one (z : Int) : ∀ u ∈ ic z, u.oneCell' = true := by intro u hu; simp [ic] at hu; subst hu; rfl
theorem pdc_one (z : PD) : ∀ u ∈ pdc z, u.oneCell' = true := by intro u hu; simp [pdc] at hu; rcases hu with rfl | rfl | rfl <;> rfl
/-- numbers as a list -/
def iL (f : Nat → Int) (n : Nat) : List Int := (List.range n).map f
theorem iL_len (f : Nat → Int) (n : Nat) : (iL f n).length = n := by simp [iL]
theorem iL_get {f : Nat → Int} {n i : Nat} (h : i < n) : (iL f n)[i]? = some (f i) := by simp [iL, h]
theorem ints_L {w : World} {a : Option Addr} {n : Nat} {f : Nat → Int} (h : IntsAt w a n f) : AtL w 1 ic a (iL f n) := fun i x hx => by
  have hi : i < n := by rw [← iL_len f n]; exact (List.getElem?_eq_some_iff.1 hx).1
  rw [iL_get hi] at hx
  obtain rfl : f i = x := by simpa using hx
  obtain ⟨b, off, ha, hc⟩ := h i hi
  refine ⟨b, off, ha, fun j u hu => ?_⟩
  cases j with
  | zero =>
    obtain rfl : Value.int .i64 (f i) = u := by simpa [ic] using hu
    simpa using hc
  | succ j => simp [ic] at hu
theorem L_ints {w : World} {a : Option Addr} {n : Nat} {f : Nat → Int} (h : AtL w 1 ic a (iL f n)) : IntsAt w a n f := fun i hi => by
  obtain ⟨b, off, ha, hc⟩ := h i _ (iL_get hi)
  exact ⟨b, off, ha, by simpa using hc 0 _ rfl⟩
/-- rows of different elements lie in different blocks -/
theorem own_ne {α β : Type} {w : World} {B B' : Nat} {T T' : TypeId} {k k' : Nat} {f : α → List Value} {f' : β → List Value} {v v' : Value} {xs : List α} {ys : List β} (h : OwnL w B T k f v xs) (h' : OwnL w B' T' k' f' v' ys) (hT : T ≠ T') : v.ownBlock = none ∨ v.ownBlock ≠ v'.ownBlock := by
  rcases h.2 with ⟨rfl, _⟩ | ⟨g, cap, cur, rfl, _, hg, _⟩
  · exact .inl rfl
  · refine .inr (fun e => ?_)
    rcases h'.2 with ⟨rfl, _⟩ | ⟨g', cap', cur', rfl, _, hg', _⟩
    · simp [Value.ownBlock] at e
    · have : g = g' := by simpa [Value.ownBlock] using e
      subst this
      rw [hg] at hg'
      injection hg' with h1
      injection h1 with _ h2
      exact hT h2
theorem own_blk {α : Type} {w : World} {B : Nat} {T T' : TypeId} {k : Nat} {f : α → List Value} {v : Value} {xs : List α} {b : Nat} {cs : Array Value} (h : OwnL w B T k f v xs) (h' : w.heap[b]? = some (.cells cs T' (0, 0))) (hT : T ≠ T') : v.ownBlock ≠ some b := by
  rcases h.2 with ⟨rfl, _⟩ | ⟨g, cap, cur, rfl, _, hg, _⟩
  · simp [Value.ownBlock]
  · intro e
    have : g = b := by simpa [Value.ownBlock] using e
    subst this
    rw [hg] at h'
    injection h' with h1
    injection h1 with _ h2
    exact hT h2
theorem OwnL.kept {α : Type} {w w' : World} {B : Nat} {T : TypeId} {k : Nat} {f : α → List Value} {v : Value} {xs : List α} {row : Option Nat} (h : OwnL w B T k f v xs) (hg : w.grownBy w' row) (hne : v.ownBlock = none ∨ v.ownBlock ≠ row) : OwnL w' B T k f v xs := World.ownsRow.kept h hg hne

/-- the copies of a grid's products: of the first k -/
structure CopyOf (w : World) (B : Nat) (g : Gr) (k : Nat) (ps : List PD) : Prop where
  n : ps.length = k
  each : ∀ i, (hi : i < ps.length) → ps[i].nm = (g.P i).nm ∧ ps[i].len = (g.P i).len ∧ ps[i].mv = (g.P i).mv ∧ ps[i].fee = (g.P i).fee ∧ OwnL w B 3 1 ic (.slice ps[i].a ps[i].len ps[i].cap) (iL (g.P i).mv (g.P i).len)
theorem CopyOf.below {w w' : World} {B k : Nat} {g : Gr} {ps : List PD} (h : CopyOf w B g k ps) (hb : Below w.heap.size w w') : CopyOf w' B g k ps :=
  ⟨h.n, fun i hi => by obtain ⟨h1, h2, h3, h4, h5⟩ := h.each i hi; exact ⟨h1, h2, h3, h4, h5.below hb⟩⟩
theorem CopyOf.kept {w w' : World} {B k : Nat} {g : Gr} {ps : List PD} {row : Option Nat} (h : CopyOf w B g k ps) (hg : w.grownBy w' row) (hne : ∀ i, (hi : i < ps.length) → (Value.slice ps[i].a ps[i].len ps[i].cap).ownBlock = none ∨ (Value.slice ps[i].a ps[i].len ps[i].cap).ownBlock ≠ row) : CopyOf w' B g k ps :=
  ⟨h.n, fun i hi => by obtain ⟨h1, h2, h3, h4, h5⟩ := h.each i hi; exact ⟨h1, h2, h3, h4, OwnL.kept h5 hg (hne i hi)⟩⟩
theorem CopyOf.snoc {w : World} {B k : Nat} {g : Gr} {ps : List PD} {p : PD} (h : CopyOf w B g k ps) (hp : p.nm = (g.P k).nm ∧ p.len = (g.P k).len ∧ p.mv = (g.P k).mv ∧ p.fee = (g.P k).fee ∧ OwnL w B 3 1 ic (.slice p.a p.len p.cap) (iL (g.P k).mv (g.P k).len)) : CopyOf w B g (k + 1) (ps ++ [p]) := by
  refine ⟨by rw [List.length_append, h.n]; rfl, fun i hi => ?_⟩
  by_cases hk : i < ps.length
  · have e : (ps ++ [p])[i] = ps[i] := List.getElem_append_left hk
    rw [e]
    exact h.each i hk
  · have hik : i = k := by have h0 := h.n; simp at hi; omega
    subst hik
    have e : (ps ++ [p])[i] = p := by
      rw [List.getElem_append_right (by omega)]
      simp
    rw [e]
    exact hp
theorem CopyOf.map {w w' : World} {B k : Nat} {g : Gr} {ps : List PD} (h : CopyOf w B g k ps) (f : ∀ v (xs : List Int), OwnL w B 3 1 ic v xs → OwnL w' B 3 1 ic v xs) : CopyOf w' B g k ps :=
  ⟨h.n, fun i hi => by obtain ⟨h1, h2, h3, h4, h5⟩ := h.each i hi; exact ⟨h1, h2, h3, h4, f _ _ h5⟩⟩
/-- the twin: where it lies, and that it is a copy -/
def TwinPost (g : Gr) (w : World) : Ending → World → Prop := fun e w' => ∃ (wa pa : Option Addr) (wc pc : Nat) (ps : List PD), e = .returned (.agg #[.slice wa g.nw wc, .slice pa g.np pc]) ∧
  OwnL w' w.heap.size 3 1 ic (.slice wa g.nw wc) (iL g.W g.nw) ∧ OwnL w' w.heap.size 54 3 pdc (.slice pa g.np pc) ps ∧ CopyOf w' w.heap.size g g.np ps ∧ Below w.heap.size w w'

set_option maxRecDepth 100000 in
set_option maxHeartbeats 8000000 in
theorem refTwin_any (g : Gr) (w : World) (hG : GrAt w g) (h60 : g.nw ≤ 60 ∧ g.np ≤ 40 ∧ ∀ i, i < g.np → (g.P i).len ≤ 60) :
    Calls Try.prog 13 #[.agg #[.slice g.wa g.nw g.wc, .slice g.pa g.np g.pc]] w (TwinPost g w) := by
  have HG := Lib.hid hG
  have HL := Lib.hid h60.2.2
  have hn1 := h60.1
  have hn2 := h60.2.1
  obtain ⟨A, hwa⟩ : ∃ A, A = g.wa := ⟨_, rfl⟩
  obtain ⟨D, hpa⟩ : ∃ D, D = g.pa := ⟨_, rfl⟩
  have HIA := Lib.hid (show AtL w 1 ic A (iL g.W g.nw) by rw [hwa]; exact ints_L hG.ws)
  have HPA := Lib.hid (show ProdsAt w D g.np g.P by rw [hpa]; exact hG.ps)
  rw [← hwa, ← hpa]
  clear hwa hpa hG h60
  have hbb := blk_two w (.cells #[.slice A g.nw g.wc, .slice D g.np g.pc] 25) (.cells #[.slice none 0 0, .slice none 0 0] 25)
  have hb0 : Below w.heap.size w ((w.alloc (.cells #[.slice A g.nw g.wc, .slice D g.np g.pc] 25)).alloc (.cells #[.slice none 0 0, .slice none 0 0] 25)) := ((Below.refl _ _).alloc (Nat.le_refl _) _).alloc (by simp) _
  have HX0 := Lib.hid hbb
  have HB0 := Lib.hid hb0
  clear hbb hb0
  go_enter Try.func13, Try.ntmps13
  have hlW := iL_len g.W g.nw
  have HLW := Lib.hid hlW
  clear hlW
  go_wp2_with (at_builtin; refine wpList_append_LN (((w.alloc (.cells #[.slice A g.nw g.wc, .slice D g.np g.pc] 25)).alloc (.cells #[.slice none 0 0, .slice none 0 0] 25)).alloc (.cells #[] 3)) (P := Try.prog) (α := Int) rfl _ _ _ rfl 3 (.int .i64 0) 1 8 Try.underlying22 (by kernel_rfl) rfl (by decide) (w.heap.size + 1 + 1) ic ic_len ic_one (.slice (some ⟨w.heap.size + 1 + 1, 0, none⟩) 0 0) [] (iL g.W g.nw) A g.wc rfl g.nw HLW.out rfl (OwnL.empty (by have := blk_new ((w.alloc (.cells #[.slice A g.nw g.wc, .slice D g.np g.pc] 25)).alloc (.cells #[.slice none 0 0, .slice none 0 0] 25)) (.cells #[] 3); simpa using this) (Nat.le_refl _)) ((HIA.out.below HB0.out).below ((Below.refl _ _).alloc (Nat.le_refl _) _)) (by rw [HLW.out]; simp <;> unfold maxLen <;> omega) (by rw [HLW.out]; simp <;> omega) (by simp) ?_; intro a3 c3 w3 ho3 hg3)
  have hb3 : Below w.heap.size w w3 := (HB0.out.alloc (by simp <;> omega) (.cells #[] 3)).grown hg3 (by simp <;> omega) (fun k hk => by simp [Value.ownBlock] at hk; omega)
  have hne0 : (Value.slice (some ⟨w.heap.size + 1 + 1, 0, none⟩) 0 0).ownBlock ≠ some w.heap.size := by simp [Value.ownBlock] <;> omega
  have hne1 : (Value.slice (some ⟨w.heap.size + 1 + 1, 0, none⟩) 0 0).ownBlock ≠ some (w.heap.size + 1) := by simp [Value.ownBlock] <;> omega
  have HX3 := Lib.hid (far_blk hg3 (blk_past _ _ HX0.out.1) hne0)
  have HR3 := Lib.hid (far_blk hg3 (blk_past _ _ HX0.out.2) hne1)
  have HW3 : Hid (OwnL w3 w.heap.size 3 1 ic (.slice a3 g.nw c3) (iL g.W g.nw)) := by
    have := ho3.lower' (B' := w.heap.size) (by omega)
    unfold Hid
    simpa using this
  have hs3 : w.heap.size + 1 < w3.heap.size := blk_lt HR3.out
  have HS3 := Lib.hid (Below.refl w3.heap.size w3)
  generalize hN : w3.heap.size = N at *
  have HO3 : Hid ((w3.alloc (.cells #[.slice a3 g.nw c3, .slice none 0 0] 25)).heap[N]? = some (.cells #[.slice a3 g.nw c3, .slice none 0 0] 25 (0, 0))) := by rw [← hN]; exact blk_new w3 _
  have HBN := Lib.hid (hb3.alloc hb3.size (.cells #[.slice a3 g.nw c3, .slice none 0 0] 25))
  have HXN := Lib.hid (blk_past w3 (.cells #[.slice a3 g.nw c3, .slice none 0 0] 25) HX3.out)
  have HRN := Lib.hid (blk_past w3 (.cells #[.slice a3 g.nw c3, .slice none 0 0] 25) HR3.out)
  have HWN := Lib.hid (HW3.out.below ((Below.refl _ _).alloc (Nat.le_refl _) (.cells #[.slice a3 g.nw c3, .slice none 0 0] 25)))
  clear ho3 hg3 hb3 hne0 hne1 HX3 HR3 HW3 HX0 HB0 HS3 hN HIA
  go_wp2_with fail
  generalize w3.alloc _ = wo at HO3 HBN HXN HRN HWN ⊢
  go_loopw [4, 5] (fun i _ wr => ∃ (k : Nat) (ps : List PD) (pv : Value), k ≤ g.np ∧ i = .int .i64 k ∧ Hid (wr.heap[w.heap.size]? = some (.cells #[.slice A g.nw g.wc, .slice D g.np g.pc] 25 (0, 0))) ∧ Hid (wr.heap[w.heap.size + 1]? = some (.cells #[.slice none 0 0, .slice none 0 0] 25 (0, 0))) ∧
      Hid (wr.heap[N]? = some (.cells #[.slice a3 g.nw c3, pv] 25 (0, 0))) ∧ Hid (OwnL wr w.heap.size 54 3 pdc pv ps) ∧ Hid (CopyOf wr w.heap.size g k ps) ∧ Hid (OwnL wr w.heap.size 3 1 ic (.slice a3 g.nw c3) (iL g.W g.nw)) ∧ Below w.heap.size w wr) (fun i _ _ => g.np - (intOf i).toNat)
  case atStart => exact ⟨0, [], .slice none 0 0, by omega, rfl, HXN, HRN, HO3, OwnL.nil _ _ _ _ _, ⟨rfl, fun i hi => by simp at hi⟩, HWN, HBN.out⟩
  case round =>
    clear HXN HRN HO3 HWN HBN
    obtain ⟨k, ps, pv, hk, rfl, HX, HR, HOT, HOP, HCP, HW, hbw⟩ := hrel
    have x1 : wr.cell? ⟨w.heap.size, 1, none⟩ = some (.slice D g.np g.pc) := cell_of HX.out 1 _ rfl
    have hsz : w.heap.size + 1 < wr.heap.size := blk_lt HR.out
    have hNs : N < wr.heap.size := blk_lt HOT.out
    by_cases hlt : k < g.np
    · obtain ⟨bp, op, rfl, q0, q1, q2, qi⟩ := (HPA.out.below hbw) k hlt
      have hbp : bp < wr.heap.size := World.block_lt_of_cell? _ _ q0
      have HMV := Lib.hid (ints_L qi)
      have hlen := HL.out k hlt
      have HLM := Lib.hid (iL_len (g.P k).mv (g.P k).len)
      have HPL := Lib.hid HCP.out.n
      have k0 : (0 : Int) ≤ k := by omega
      have k1 : (k : Int) < g.np := by omega
      clear qi
      have hltp := HOP.out.lt
      have HLP := Lib.hid (show pv.ownBlock ≠ some wr.heap.size ∧ pv.ownBlock ≠ some (wr.heap.size + 1) from ⟨fun e => by have := (hltp _ e).2; omega, fun e => by have := (hltp _ e).2; omega⟩)
      clear hltp
      have HIL := Lib.hid (show ∀ v (xs : List Int), OwnL wr w.heap.size 3 1 ic v xs → v.ownBlock ≠ some wr.heap.size ∧ v.ownBlock ≠ some (wr.heap.size + 1) from fun v xs h => ⟨fun e => by have := (h.lt _ e).2; omega, fun e => by have := (h.lt _ e).2; omega⟩)
      have HPO := Lib.hid (own_blk HOP.out HOT.out (by decide))
      have HPX := Lib.hid (own_blk HOP.out HX.out (by decide))
      have HPR := Lib.hid (own_blk HOP.out HR.out (by decide))
      obtain ⟨P0, hP0⟩ : ∃ P0, P0 = g.P k := ⟨_, rfl⟩
      rw [← hP0] at q0 q1 q2 HMV HLM hlen
      have HP0 := Lib.hid hP0
      clear hP0
      go_wp2_with (first
        | (at_builtin; refine wpList_append_L (P := Try.prog) (α := PD) rfl _ _ _ rfl 54 (.agg #[.string ⟨#[]⟩, .slice none 0 0, .int .i64 0]) 3 48 Try.underlying23 (by kernel_rfl) rfl (by decide) w.heap.size pdc pv ps ⟨P0.nm, a4, P0.len, c4, P0.mv, P0.fee⟩ w4.heap.size #[.string P0.nm, .slice a4 P0.len c4, .int .i64 P0.fee] rfl rfl ((HOP4.out.far HLP.out.1 _).below ((Below.refl _ _).alloc (Nat.le_refl _) _)) (blk_new_set _ _ _ _) rfl rfl (by simp [pdc, Value.oneCell']) (by have := HPL.out; unfold maxLen; omega) (by have := HPL.out; omega) (by have := HB4.out.size; simp <;> omega) ?_; intro g5 c5 w5 ho5 hg5 hat5; have HIR2 := Lib.hid (fun v (xs : List Int) (h : OwnL wr w.heap.size 3 1 ic v xs) => OwnL.kept (((HIR.out v xs h).far (p := ⟨wr.heap.size, 1, none⟩) (HIL.out v xs h).1 (.slice a4 P0.len c4)).below ((Below.refl _ _).alloc (Nat.le_refl _) (.cells #[.string P0.nm, .slice a4 P0.len c4, .int .i64 P0.fee] 54))) hg5 (own_ne (((HIR.out v xs h).far (p := ⟨wr.heap.size, 1, none⟩) (HIL.out v xs h).1 (.slice a4 P0.len c4)).below ((Below.refl _ _).alloc (Nat.le_refl _) (.cells #[.string P0.nm, .slice a4 P0.len c4, .int .i64 P0.fee] 54))) ((HOP4.out.far (p := ⟨wr.heap.size, 1, none⟩) HLP.out.1 (.slice a4 P0.len c4)).below ((Below.refl _ _).alloc (Nat.le_refl _) (.cells #[.string P0.nm, .slice a4 P0.len c4, .int .i64 P0.fee] 54))) (by decide))); have HN5 := Lib.hid (OwnL.kept ((HN4.out.far (p := ⟨wr.heap.size, 1, none⟩) HNM.out (.slice a4 P0.len c4)).below ((Below.refl _ _).alloc (Nat.le_refl _) (.cells #[.string P0.nm, .slice a4 P0.len c4, .int .i64 P0.fee] 54))) hg5 (own_ne ((HN4.out.far (p := ⟨wr.heap.size, 1, none⟩) HNM.out (.slice a4 P0.len c4)).below ((Below.refl _ _).alloc (Nat.le_refl _) (.cells #[.string P0.nm, .slice a4 P0.len c4, .int .i64 P0.fee] 54))) ((HOP4.out.far (p := ⟨wr.heap.size, 1, none⟩) HLP.out.1 (.slice a4 P0.len c4)).below ((Below.refl _ _).alloc (Nat.le_refl _) (.cells #[.string P0.nm, .slice a4 P0.len c4, .int .i64 P0.fee] 54))) (by decide))); have HBK := Lib.hid (fun b o (h : w4.heap[b]? = some o) (h1 : wr.heap.size ≠ b) (h2 : pv.ownBlock ≠ some b) => far_blk hg5 (blk_past _ (.cells #[.string P0.nm, .slice a4 P0.len c4, .int .i64 P0.fee] 54) (set_keep h (p := ⟨wr.heap.size, 1, none⟩) h1 (.slice a4 P0.len c4))) h2); have n0 := cell_of (HBK.out N _ HOT4.out (by omega) HPO.out) 1 _ rfl; have nf := frozen_of (HBK.out N _ HOT4.out (by omega) HPO.out) 1; have HB5 := Lib.hid (((HB4.out.setCell (p := ⟨wr.heap.size, 1, none⟩) (by show w.heap.size ≤ wr.heap.size; omega) (.slice a4 P0.len c4)).alloc (by simpa using HB4.out.size) (.cells #[.string P0.nm, .slice a4 P0.len c4, .int .i64 P0.fee] 54)).grown hg5 (by have := HB4.out.size; simp <;> omega) (fun j hj => (HOP.out.lt j hj).1)))
        | (at_builtin; refine wpList_append_LN ((wr.alloc (.cells #[.string P0.nm, .slice P0.a P0.len P0.cap, .int .i64 P0.fee] 54)).alloc (.cells #[] 3)) (P := Try.prog) (α := Int) rfl _ _ _ rfl 3 (.int .i64 0) 1 8 Try.underlying22 (by kernel_rfl) rfl (by decide) w.heap.size ic ic_len ic_one (.slice (some ⟨wr.heap.size + 1, 0, none⟩) 0 0) [] (iL P0.mv P0.len) P0.a P0.cap rfl P0.len HLM.out rfl (OwnL.empty (blk_two wr _ _).2 (by omega)) ((HMV.out.below ((Below.refl _ _).alloc (Nat.le_refl _) (.cells #[.string P0.nm, .slice P0.a P0.len P0.cap, .int .i64 P0.fee] 54))).below ((Below.refl _ _).alloc (Nat.le_refl _) (.cells #[] 3))) (by rw [HLM.out]; simp <;> unfold maxLen <;> omega) (by rw [HLM.out]; simp <;> omega) (by simp <;> omega) ?_; intro a4 c4 w4 ho4 hg4; have HBA := Lib.hid (((Below.refl wr.heap.size wr).alloc (Nat.le_refl _) (.cells #[.string P0.nm, .slice P0.a P0.len P0.cap, .int .i64 P0.fee] 54)).alloc (by simp) (.cells #[] 3)); have hown4 : (Value.slice (some ⟨wr.heap.size + 1, 0, none⟩) 0 0).ownBlock = some (wr.heap.size + 1) := rfl; have HB4 := Lib.hid (((hbw.alloc hbw.size (.cells #[.string P0.nm, .slice P0.a P0.len P0.cap, .int .i64 P0.fee] 54)).alloc (by have := hbw.size; simp <;> omega) (.cells #[] 3)).grown hg4 (by simp <;> omega) (fun j hj => by rw [hown4] at hj; have h0 : wr.heap.size + 1 = j := (by simpa using hj); omega)); have hw4 := hg4.size; have HW4 : wr.heap.size + 1 < w4.heap.size := (by simp at hw4 <;> omega); have HFB := Lib.hid (fun b o (h : ((wr.alloc (.cells #[.string P0.nm, .slice P0.a P0.len P0.cap, .int .i64 P0.fee] 54)).alloc (.cells #[] 3)).heap[b]? = some o) (h1 : wr.heap.size + 1 ≠ b) => far_blk hg4 h (by rw [hown4]; simpa using h1)); have HM4 := Lib.hid (HFB.out wr.heap.size _ (blk_two wr (.cells #[.string P0.nm, .slice P0.a P0.len P0.cap, .int .i64 P0.fee] 54) (.cells #[] 3)).1 (by omega)); have m0 := cell_of HM4.out 0 _ rfl; have m1 := cell_of HM4.out 1 _ rfl; have m2 := cell_of HM4.out 2 _ rfl; have mf := frozen_of HM4.out 1; have HX4 := Lib.hid (HFB.out w.heap.size _ (blk_past _ _ (blk_past _ _ HX.out)) (by omega)); have HR4 := Lib.hid (HFB.out (w.heap.size + 1) _ (blk_past _ _ (blk_past _ _ HR.out)) (by omega)); have HOT4 := Lib.hid (HFB.out N _ (blk_past _ _ (blk_past _ _ HOT.out)) (by omega)); have o1 := cell_of HOT4.out 1 _ rfl; have HOP4 := Lib.hid (OwnL.kept (HOP.out.below HBA.out) hg4 (.inr (by rw [hown4]; exact HLP.out.2))); have HIR := Lib.hid (fun v (xs : List Int) (h : OwnL wr w.heap.size 3 1 ic v xs) => OwnL.kept (h.below HBA.out) hg4 (.inr (by rw [hown4]; exact (HIL.out v xs h).2))); have HN4 : Hid (OwnL w4 w.heap.size 3 1 ic (.slice a4 P0.len c4) (iL P0.mv P0.len)) := (by unfold Hid; simpa using ho4); have HNM := Lib.hid (own_blk HN4.out HM4.out (by decide)); have hne1 : wr.heap.size ≠ N := (by omega); clear ho4 hw4))
      have h5 := HBK.out N _ HOT4.out (by omega) HPO.out
      have H5 := Lib.hid h5
      have HXF := Lib.hid (set_keep (HBK.out w.heap.size _ HX4.out (by omega) HPX.out) (p := ⟨N, 1, none⟩) (show (N : Nat) ≠ w.heap.size by omega) (.slice (some ⟨g5, 0, none⟩) (ps.length + 1) c5))
      have HRF := Lib.hid (set_keep (HBK.out (w.heap.size + 1) _ HR4.out (by omega) HPR.out) (p := ⟨N, 1, none⟩) (show (N : Nat) ≠ w.heap.size + 1 by omega) (.slice (some ⟨g5, 0, none⟩) (ps.length + 1) c5))
      have HOF : Hid ((w5.setCell ⟨N, 1, none⟩ (.slice (some ⟨g5, 0, none⟩) (ps.length + 1) c5)).heap[N]? = some (.cells #[.slice a3 g.nw c3, .slice (some ⟨g5, 0, none⟩) (ps.length + 1) c5] 25 (0, 0))) := by
        unfold Hid
        simp [World.setCell, Array.getElem?_modify, h5]
      have HOPF := Lib.hid (ho5.far (p := ⟨N, 1, none⟩) (own_blk ho5 h5 (by decide)) (.slice (some ⟨g5, 0, none⟩) (ps.length + 1) c5))
      have HIF : Hid (∀ v (xs : List Int), OwnL wr w.heap.size 3 1 ic v xs → OwnL (w5.setCell ⟨N, 1, none⟩ (.slice (some ⟨g5, 0, none⟩) (ps.length + 1) c5)) w.heap.size 3 1 ic v xs) := fun v xs h => (HIR2.out v xs h).far (p := ⟨N, 1, none⟩) (own_blk (HIR2.out v xs h) H5.out (by decide)) _
      have HNF := Lib.hid (HN5.out.far (p := ⟨N, 1, none⟩) (own_blk HN5.out h5 (by decide)) (.slice (some ⟨g5, 0, none⟩) (ps.length + 1) c5))
      have HCF := Lib.hid (CopyOf.snoc (p := ⟨P0.nm, a4, P0.len, c4, P0.mv, P0.fee⟩) (HCP.out.map HIF.out) (by rw [← HP0.out]; exact ⟨rfl, rfl, rfl, rfl, HNF.out⟩))
      have HWF := Lib.hid (HIF.out _ _ HW.out)
      have HBF := Lib.hid (HB5.out.setCell (p := ⟨N, 1, none⟩) (show w.heap.size ≤ N by omega) (.slice (some ⟨g5, 0, none⟩) (ps.length + 1) c5))
      clear ho5 hg5 hat5 HIR2 HN5 HBK n0 nf HB5 HBA hown4 HB4 HW4 HFB HM4 m0 m1 m2 mf HX4 HR4 HOT4 o1 HOP4 HIR HN4 HNM hne1 h5 H5
      go_wp2
      go_roundw
      case rel => exact ⟨k + 1, _, _, by omega, by go_num, HXF, HRF, HOF, HOPF, HCF, HWF, HBF.out⟩
      case measure => simp [intOf]; omega
    · obtain rfl : k = g.np := by omega
      obtain ⟨ao, co, rfl, _, _, _⟩ := HOP.out.read pdc_len
      have hpl := HCP.out.n
      have o0 : wr.cell? ⟨N, 0, none⟩ = some (.slice a3 g.nw c3) := cell_of HOT.out 0 _ rfl
      have o1 : wr.cell? ⟨N, 1, none⟩ = some (.slice ao ps.length co) := cell_of HOT.out 1 _ rfl
      have r0 : wr.cell? ⟨w.heap.size + 1, 0, none⟩ = some (.slice none 0 0) := cell_of HR.out 0 _ rfl
      have r1 : wr.cell? ⟨w.heap.size + 1, 1, none⟩ = some (.slice none 0 0) := cell_of HR.out 1 _ rfl
      have f0 := frozen_of HR.out 0
      have f1 := frozen_of HR.out 1
      have HPL := Lib.hid hpl
      clear hpl
      go_wp2_with fail
      have HS := Lib.hid (show (((wr.setCell ⟨w.heap.size + 1, 0, none⟩ (.slice a3 g.nw c3)).setCell ⟨w.heap.size + 1, 1, none⟩ (.slice ao ps.length co)).heap[w.heap.size + 1]? = some (.cells #[.slice a3 g.nw c3, .slice ao ps.length co] 25 (0, 0))) by
        have h := HR.out
        simp [World.setCell, Array.getElem?_modify, h])
      have s0 := cell_of HS.out 0 _ rfl
      have s1 := cell_of HS.out 1 _ rfl
      have hxI := fun v (xs : List Int) (h : OwnL wr w.heap.size 3 1 ic v xs) => (h.far (p := ⟨w.heap.size + 1, 0, none⟩) (own_blk h HR.out (by decide)) (.slice a3 g.nw c3))
      have hR1 : (wr.setCell ⟨w.heap.size + 1, 0, none⟩ (.slice a3 g.nw c3)).heap[w.heap.size + 1]? = some (.cells #[.slice a3 g.nw c3, .slice none 0 0] 25 (0, 0)) := by
        have h := HR.out
        simp [World.setCell, Array.getElem?_modify, h]
      have hyI := fun v (xs : List Int) (h : OwnL wr w.heap.size 3 1 ic v xs) => ((hxI v xs h).far (p := ⟨w.heap.size + 1, 1, none⟩) (own_blk (hxI v xs h) hR1 (by decide)) (.slice ao ps.length co))
      have hxP := HOP.out.far (p := ⟨w.heap.size + 1, 0, none⟩) (own_blk HOP.out HR.out (by decide)) (.slice a3 g.nw c3)
      have hyP := hxP.far (p := ⟨w.heap.size + 1, 1, none⟩) (own_blk hxP hR1 (by decide)) (.slice ao ps.length co)
      have hbe := (hbw.setCell (p := ⟨w.heap.size + 1, 0, none⟩) (show w.heap.size ≤ w.heap.size + 1 by omega) (.slice a3 g.nw c3)).setCell (p := ⟨w.heap.size + 1, 1, none⟩) (show w.heap.size ≤ w.heap.size + 1 by omega) (.slice ao ps.length co)
      have hpl := HPL.out
      refine bodyPost_ret (v := .agg #[.slice a3 g.nw c3, .slice ao ps.length co]) (by simp [results, Try.results13, go_sem, s0, s1]) rfl ⟨a3, ao, c3, co, ps, by rw [hpl], hyI _ _ HW.out, by rw [← hpl]; exact hyP, HCP.out.map hyI, hbe⟩
end Go.Proofs.Ytmljjofpbonplaa.Mg
