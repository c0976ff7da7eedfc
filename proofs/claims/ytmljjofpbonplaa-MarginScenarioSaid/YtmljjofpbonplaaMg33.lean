/-
  The law MarginScenario: the walk of part.
-/
import Derived.Test.YtmljjofpbonplaaMg32
namespace Go.Proofs.Ytmljjofpbonplaa.Mg
open Go.RowKit Go.Proofs.Ytmljjofpbonplaa Go.Proofs.Ytmljjofpbonplaa.Nm Go.Proofs.Ytmljjofpbonplaa.Ls

/-- an address moved on -/
def sh (a : Option Addr) (f : Nat) : Option Addr := a.map fun x => ⟨x.block, x.off + f, x.spot⟩
theorem IntsAt.cut {w : World} {a : Option Addr} {n : Nat} {m : Nat → Int} (h : IntsAt w a n m) (f t : Nat) (ht : t ≤ n) : IntsAt w (sh a f) (t - f) (fun k => m (f + k)) := fun i hi => by
  obtain ⟨b, off, rfl, hc⟩ := h (f + i) (by omega)
  exact ⟨b, off + f, rfl, by rw [Nat.add_assoc]; exact hc⟩
/-- the products' cells: those of the first k have their moves cut -/
def CutAt (w : World) (b off : Nat) (ps : List PD) (f t k : Nat) : Prop :=
  ∀ i, (hi : i < ps.length) → w.cell? ⟨b, off + i * 3, none⟩ = some (.string ps[i].nm) ∧
    w.cell? ⟨b, off + i * 3 + 1, none⟩ = some (if i < k then .slice (sh ps[i].a f) (t - f) (ps[i].cap - f) else .slice ps[i].a ps[i].len ps[i].cap) ∧
    w.cell? ⟨b, off + i * 3 + 2, none⟩ = some (.int .i64 ps[i].fee)
theorem CutAt.zero {w : World} {b off : Nat} {ps : List PD} {f t : Nat} (h : AtL w 3 pdc (some ⟨b, off, none⟩) ps) : CutAt w b off ps f t 0 := fun i hi => by
  obtain ⟨b', off', ha, hc⟩ := h i _ (List.getElem?_eq_getElem hi)
  cases ha
  exact ⟨hc 0 _ rfl, by rw [if_neg (by omega)]; exact hc 1 _ rfl, hc 2 _ rfl⟩
theorem CutAt.step {w : World} {b off : Nat} {ps : List PD} {f t k : Nat} (h : CutAt w b off ps f t k) (hk : k < ps.length) :
    CutAt (w.setCell ⟨b, off + k * 3 + 1, none⟩ (.slice (sh ps[k].a f) (t - f) (ps[k].cap - f))) b off ps f t (k + 1) := fun i hi => by
  obtain ⟨h0, h1, h2⟩ := h i hi
  refine ⟨?_, ?_, ?_⟩
  · rw [World.cell?_setCell_other w _ _ _ (by intro e; injection e with _ e2; omega)]
    exact h0
  · by_cases e : i = k
    · subst e
      rw [if_pos (by omega)]
      exact World.cell?_setCell_same w _ _ h1
    · rw [World.cell?_setCell_other w _ _ _ (by intro e; injection e with _ e2; omega)]
      rw [h1]
      by_cases e3 : i < k
      · rw [if_pos e3, if_pos (by omega)]
      · rw [if_neg e3, if_neg (by omega)]
  · rw [World.cell?_setCell_other w _ _ _ (by intro e; injection e with _ e2; omega)]
    exact h2
theorem own_obj {α : Type} {w : World} {B : Nat} {T : TypeId} {k : Nat} {f : α → List Value} {b off n c : Nat} {xs : List α} (h : OwnL w B T k f (.slice (some ⟨b, off, none⟩) n c) xs) : ∃ cs, w.heap[b]? = some (.cells cs T (0, 0)) := by
  rcases h.2 with ⟨e, _⟩ | ⟨g, cap, cur, e, _, hg, _⟩
  · cases e
  · injection e with e1
    injection e1 with e2
    injection e2 with e3
    subst e3
    exact ⟨_, hg⟩
theorem obj_set {w : World} {b : Nat} {T : TypeId} (h : ∃ cs, w.heap[b]? = some (.cells cs T (0, 0))) (p : Addr) (v : Value) (hs : p.spot = none) : ∃ cs, (w.setCell p v).heap[b]? = some (.cells cs T (0, 0)) := by
  obtain ⟨cs, h⟩ := h
  by_cases e : p.block = b
  · subst e
    exact ⟨_, by simp [World.setCell, Array.getElem?_modify, h, hs]; rfl⟩
  · exact ⟨cs, set_keep h e v⟩
theorem CutAt.far {w : World} {b off : Nat} {ps : List PD} {f t k : Nat} (h : CutAt w b off ps f t k) {p : Addr} (hp : p.block ≠ b) (v : Value) : CutAt (w.setCell p v) b off ps f t k := fun i hi => by
  obtain ⟨h0, h1, h2⟩ := h i hi
  exact ⟨by rw [World.cell?_setCell_other w _ _ _ (fun e => hp (by rw [e]))]; exact h0, by rw [World.cell?_setCell_other w _ _ _ (fun e => hp (by rw [e]))]; exact h1, by rw [World.cell?_setCell_other w _ _ _ (fun e => hp (by rw [e]))]; exact h2⟩
theorem blk_ne {w : World} {b b' : Nat} {cs cs' : Array Value} {T T' : TypeId} (h : w.heap[b]? = some (.cells cs T (0, 0))) (h' : w.heap[b']? = some (.cells cs' T' (0, 0))) (hT : T ≠ T') : b ≠ b' := fun e => by
  subst e
  rw [h] at h'
  injection h' with h1
  injection h1 with _ h2
  exact hT h2
theorem part_at {w0 w : World} {g : Gr} {B bw ow wc pc f t : Nat} {pa : Option Addr} {ps : List PD} (hG : GrAt w0 g) (hn : g.nw ≤ 60) (hlen : ∀ i, i < g.np → (g.P i).len = g.nw) (ht : t ≤ g.nw) (hW : IntsAt w (some ⟨bw, ow, none⟩) g.nw g.W) (hC : CopyOf w B g g.np ps) (h0 : ∀ i, i < g.np → ∃ b off, pa = some ⟨b, off, none⟩)
    (hP : ∀ b off, pa = some ⟨b, off, none⟩ → CutAt w b off ps f t g.np) : GrAt w (g.part (some ⟨bw, ow + f, none⟩) (wc - f) pa pc (fun i => sh (ps.getD i pd0).a f) (fun i => (ps.getD i pd0).cap - f) f t) := by
  refine ⟨?_, hG.np, fun i => ⟨(hG.pd i).1, ?_⟩, IntsAt.cut hW f t ht, fun i hi => ?_⟩
  · show t - f ≤ maxLen
    unfold maxLen
    omega
  · show t - f ≤ maxLen
    unfold maxLen
    omega
  · obtain ⟨b, off, ha⟩ := h0 i hi
    have hi1 : i < g.np := hi
    have hi2 : i < ps.length := by rw [hC.n]; exact hi
    obtain ⟨c0, c1, c2⟩ := hP b off ha i hi2
    obtain ⟨h1, h2, h3, h4, h5⟩ := hC.each i hi2
    have hd : ps.getD i pd0 = ps[i] := by rw [List.getD_eq_getElem?_getD, List.getElem?_eq_getElem hi2]; rfl
    rw [if_pos hi1] at c1
    refine ⟨b, off, ha, ?_, ?_, ?_, ?_⟩
    · rw [h1] at c0
      exact c0
    · show _ = some (Value.slice (sh (ps.getD i pd0).a f) (t - f) ((ps.getD i pd0).cap - f))
      rw [hd]
      exact c1
    · rw [h4] at c2
      exact c2
    · show IntsAt w (sh (ps.getD i pd0).a f) (t - f) (fun k => (g.P i).mv (f + k))
      rw [hd]
      exact IntsAt.cut (L_ints (h5.sl ic_len).1) f t (by rw [hlen i hi]; exact ht)
/-- what part returns -/
def PartPost (g : Gr) (f t : Nat) (w : World) : Ending → World → Prop := fun e w' => ∃ (wa pa : Option Addr) (wc pc : Nat) (A : Nat → Option Addr) (C : Nat → Nat), e = .returned (.tuple #[.agg #[.slice wa (t - f) wc, .slice pa g.np pc], .bool true]) ∧ GrAt w' (g.part wa wc pa pc A C f t) ∧ Below w.heap.size w w'

set_option maxRecDepth 100000 in
set_option maxHeartbeats 8000000 in
theorem part_any (g : Gr) (f t : Nat) (w : World) (hG : GrAt w g) (h60 : g.nw ≤ 60 ∧ g.np ≤ 40 ∧ ∀ i, i < g.np → (g.P i).len ≤ 60) (hlen : ∀ i, i < g.np → (g.P i).len = g.nw) (hft : f < t) (ht : t ≤ g.nw) :
    Calls Try.prog 30 #[.agg #[.slice g.wa g.nw g.wc, .slice g.pa g.np g.pc], .int .i64 f, .int .i64 t] w (PartPost g f t w) := by
  have HG := Lib.hid hG
  have HL := Lib.hid hlen
  have hn1 := h60.1
  have hn2 := h60.2.1
  have HTW := Lib.hid (fun wo h => refTwin_any g wo (hG.below h) h60)
  obtain ⟨GA, hga⟩ : ∃ x, x = g.wa := ⟨_, rfl⟩
  obtain ⟨GP, hgp⟩ : ∃ x, x = g.pa := ⟨_, rfl⟩
  have hbb := blk_two w (.cells #[.slice g.wa g.nw g.wc, .slice g.pa g.np g.pc] 25) (.cells #[.slice none 0 0, .slice none 0 0] 25)
  have hb0 : Below w.heap.size w ((w.alloc (.cells #[.slice g.wa g.nw g.wc, .slice g.pa g.np g.pc] 25)).alloc (.cells #[.slice none 0 0, .slice none 0 0] 25)) := ((Below.refl _ _).alloc (Nat.le_refl _) _).alloc (by simp) _
  rw [← hga, ← hgp] at HTW hbb hb0 ⊢
  clear hga hgp hG h60 hlen
  go_enter Try.func30, Try.ntmps30
  go_wp2_with fail
  generalize ((w.alloc _).alloc _) = wo at hbb hb0 ⊢
  refine (HTW.out _ hb0).mono ?_
  rintro e w3 ⟨wa, pa, wc, qc, ps, rfl, ho1, ho2, hco, hb3⟩
  have c3 := bt hb0 hb3 (Nat.le_refl _)
  have HX3 := Lib.hid (blk_keep hbb.1 hb3)
  have HR3 := Lib.hid (blk_keep hbb.2 hb3)
  have hso : w.heap.size + 1 < wo.heap.size := blk_lt hbb.2
  clear hbb hb0 hb3 HTW
  have hW := ho1.sl ic_len
  rw [iL_len] at hW
  have HO1 := Lib.hid ho1
  have HO2 := Lib.hid ho2
  have HCO := Lib.hid hco
  have hps : ps.length = g.np := hco.n
  obtain ⟨bw, ow, rfl, hcw⟩ := L_ints hW.1 0 (by omega)
  clear hcw ho1 ho2 hco
  have hwc : g.nw ≤ wc := hW.2.2
  have HIW := Lib.hid (L_ints hW.1)
  clear hW
  have i0 : (0 : Int) ≤ f := by omega
  have i1 : (f : Int) ≤ t := by omega
  have i2 : (t : Int) ≤ wc := by omega
  have i3 : ¬ wc = f := by omega
  have i4 : ¬ wc - f = 0 := by omega
  go_wp2_with fail
  have hba : Below w3.heap.size w3 (w3.alloc (.cells #[.slice (some ⟨bw, ow + f, none⟩) (t - f) (wc - f), .slice pa g.np qc] 25)) := (Below.refl _ _).alloc (Nat.le_refl _) _
  have HN4 := Lib.hid (blk_new w3 (.cells #[.slice (some ⟨bw, ow + f, none⟩) (t - f) (wc - f), .slice pa g.np qc] 25))
  have HX4 := Lib.hid (blk_past w3 (.cells #[.slice (some ⟨bw, ow + f, none⟩) (t - f) (wc - f), .slice pa g.np qc] 25) HX3.out)
  have HR4 := Lib.hid (blk_past w3 (.cells #[.slice (some ⟨bw, ow + f, none⟩) (t - f) (wc - f), .slice pa g.np qc] 25) HR3.out)
  have HO4 := Lib.hid (HO1.out.below hba)
  have HP4 := Lib.hid (HO2.out.below hba)
  have HC4 := Lib.hid (HCO.out.below hba)
  have HB4 := Lib.hid (bt c3 hba (Nat.le_refl _))
  have HPA := Lib.hid (HO2.out.sl pdc_len).1
  have hsn : w.heap.size + 1 < w3.heap.size := blk_lt HR3.out
  clear HX3 HR3 HO1 HO2 HCO hba c3 HIW
  have HPB := Lib.hid (show ∀ b off, pa = some ⟨b, off, none⟩ → wo.heap.size ≤ b from fun b off e => (HP4.out.lt b (by rw [e]; rfl)).1)
  generalize w3.alloc _ = w4 at HN4 HX4 HR4 HO4 HP4 HC4 HB4 ⊢
  generalize w3.heap.size = N at HN4 hsn ⊢
  generalize wo.heap.size = B at HO4 HP4 HC4 HPB hso
  go_loopw [9] (fun i wr => ∃ k : Nat, k ≤ g.np ∧ i = .int .i64 k ∧ Below w.heap.size w wr ∧ Hid (wr.heap[w.heap.size]? = some (.cells #[.slice GA g.nw g.wc, .slice GP g.np g.pc] 25 (0, 0))) ∧ Hid (wr.heap[w.heap.size + 1]? = some (.cells #[.slice none 0 0, .slice none 0 0] 25 (0, 0))) ∧ Hid (wr.heap[N]? = some (.cells #[.slice (some ⟨bw, ow + f, none⟩) (t - f) (wc - f), .slice pa g.np qc] 25 (0, 0))) ∧
      Hid (OwnL wr B 3 1 ic (.slice (some ⟨bw, ow, none⟩) g.nw wc) (iL g.W g.nw)) ∧ Hid (CopyOf wr B g g.np ps) ∧ Hid (∀ b off, pa = some ⟨b, off, none⟩ → CutAt wr b off ps f t k ∧ ∃ cs, wr.heap[b]? = some (.cells cs 54 (0, 0)))) (fun i _ => g.np - (intOf i).toNat)
  case atStart => exact ⟨0, by omega, rfl, HB4.out, HX4, HR4, HN4, HO4, HC4, fun b off e => ⟨CutAt.zero (by rw [← e]; exact (HP4.out.sl pdc_len).1), own_obj (by rw [← e]; exact HP4.out)⟩⟩
  case round =>
    clear HX4 HR4 HN4 HO4 HC4 HP4 HB4
    obtain ⟨k, hk, rfl, hbw, HX, HR, HN, HO, HC, HP⟩ := hrel
    have x0 : wr.cell? ⟨w.heap.size, 0, none⟩ = some (.slice GA g.nw g.wc) := cell_of HX.out 0 _ rfl
    have n0 : wr.cell? ⟨N, 0, none⟩ = some (.slice (some ⟨bw, ow + f, none⟩) (t - f) (wc - f)) := cell_of HN.out 0 _ rfl
    have n1 : wr.cell? ⟨N, 1, none⟩ = some (.slice pa g.np qc) := cell_of HN.out 1 _ rfl
    by_cases hlt : k < g.np
    · have hkp : k < ps.length := by omega
      obtain ⟨bp, op, hpa, _⟩ := HPA.out k _ (List.getElem?_eq_getElem hkp)
      subst hpa
      obtain ⟨hcut, cs, hcs⟩ := HP.out bp op rfl
      have hbp := HPB.out bp op rfl
      have p1 := (hcut k hkp).2.1
      rw [if_neg (by omega)] at p1
      obtain ⟨_, h2, _, _, h5⟩ := HC.out.each k hkp
      rw [h2] at p1
      have h6 := h5.sl ic_len
      rw [iL_len] at h6
      obtain ⟨bm, om, hma, _⟩ := L_ints h6.1 0 (by rw [HL.out k hlt]; omega)
      have h7 := h6.2.2
      rw [HL.out k hlt] at p1 h7
      rw [hma] at p1
      have v1 : Value.slice (some ⟨bm, om + f, none⟩) (t - f) (ps[k].cap - f) = .slice (sh ps[k].a f) (t - f) (ps[k].cap - f) := by rw [hma]; rfl
      have HV := Lib.hid v1
      have HCS := Lib.hid hcs
      have pf := frozen_of hcs (op + k * 3 + 1)
      have HP2 : Hid (∀ b off, some (⟨bp, op, none⟩ : Addr) = some ⟨b, off, none⟩ → CutAt (wr.setCell ⟨bp, op + k * 3 + 1, none⟩ (.slice (some ⟨bm, om + f, none⟩) (t - f) (ps[k].cap - f))) b off ps f t (k + 1) ∧ ∃ cs, (wr.setCell ⟨bp, op + k * 3 + 1, none⟩ (.slice (some ⟨bm, om + f, none⟩) (t - f) (ps[k].cap - f))).heap[b]? = some (.cells cs 54 (0, 0))) := fun b off e => by
        cases e
        rw [v1]
        exact ⟨CutAt.step hcut hkp, obj_set ⟨cs, hcs⟩ _ _ rfl⟩
      generalize hD : ps[k].cap = D at *
      have i5 : (t : Int) ≤ D := by omega
      have i6 : ¬ D = f := by omega
      have i7 : ¬ D - f = 0 := by omega
      have k0 : (0 : Int) ≤ k := by omega
      have k1 : (k : Int) < g.np := by omega
      have HX2 := Lib.hid (set_keep HX.out (p := ⟨bp, op + k * 3 + 1, none⟩) (blk_ne hcs HX.out (by decide)) (.slice (some ⟨bm, om + f, none⟩) (t - f) (D - f)))
      have HR2 := Lib.hid (set_keep HR.out (p := ⟨bp, op + k * 3 + 1, none⟩) (blk_ne hcs HR.out (by decide)) (.slice (some ⟨bm, om + f, none⟩) (t - f) (D - f)))
      have HN2 := Lib.hid (set_keep HN.out (p := ⟨bp, op + k * 3 + 1, none⟩) (blk_ne hcs HN.out (by decide)) (.slice (some ⟨bm, om + f, none⟩) (t - f) (D - f)))
      have HO2 := Lib.hid (HO.out.far (p := ⟨bp, op + k * 3 + 1, none⟩) (own_blk HO.out hcs (by decide)) (.slice (some ⟨bm, om + f, none⟩) (t - f) (D - f)))
      have HC2 := Lib.hid (HC.out.map (fun v xs h => h.far (p := ⟨bp, op + k * 3 + 1, none⟩) (own_blk h hcs (by decide)) (.slice (some ⟨bm, om + f, none⟩) (t - f) (D - f))))
      have HB2 := Lib.hid (hbw.setCell (p := ⟨bp, op + k * 3 + 1, none⟩) (show w.heap.size ≤ bp by omega) (.slice (some ⟨bm, om + f, none⟩) (t - f) (D - f)))
      clear hcut hcs HP HX HR HN HO HC h2 h5 h6 hma v1 HV HCS
      go_wp2_with fail
      go_quiet (fail)
      go_wp2
      go_region
      go_wp2
      go_roundw
      case rel => exact ⟨k + 1, by omega, by go_num, by first | exact HB2.out | exact HB2.out.drew | exact HB2.out.drew.drew | exact below_drewN HB2.out _ | exact (below_drewN HB2.out _).drew, HX2, HR2, HN2, HO2, HC2.out.map (fun _ _ h => h), HP2⟩
      case measure => simp [intOf]; omega
    · obtain rfl : k = g.np := by omega
      have r0 : wr.cell? ⟨w.heap.size + 1, 0, none⟩ = some (.slice none 0 0) := cell_of HR.out 0 _ rfl
      have r1 : wr.cell? ⟨w.heap.size + 1, 1, none⟩ = some (.slice none 0 0) := cell_of HR.out 1 _ rfl
      have f0 := frozen_of HR.out 0
      have f1 := frozen_of HR.out 1
      have hR1 : (wr.setCell ⟨w.heap.size + 1, 0, none⟩ (.slice (some ⟨bw, ow + f, none⟩) (t - f) (wc - f))).heap[w.heap.size + 1]? = some (.cells #[.slice (some ⟨bw, ow + f, none⟩) (t - f) (wc - f), .slice none 0 0] 25 (0, 0)) := by
        have h := HR.out
        simp [World.setCell, Array.getElem?_modify, h]
      have hR2 : ((wr.setCell ⟨w.heap.size + 1, 0, none⟩ (.slice (some ⟨bw, ow + f, none⟩) (t - f) (wc - f))).setCell ⟨w.heap.size + 1, 1, none⟩ (.slice pa g.np qc)).heap[w.heap.size + 1]? = some (.cells #[.slice (some ⟨bw, ow + f, none⟩) (t - f) (wc - f), .slice pa g.np qc] 25 (0, 0)) := by
        have h := HR.out
        simp [World.setCell, Array.getElem?_modify, h]
      have HR1 := Lib.hid hR1
      have HR2 := Lib.hid hR2
      clear hR1 hR2
      go_wp2_with fail
      have s0 := cell_of HR2.out 0 _ rfl
      have s1 := cell_of HR2.out 1 _ rfl
      have hI := fun v (xs : List Int) (h : OwnL wr B 3 1 ic v xs) => (h.far (p := ⟨w.heap.size + 1, 0, none⟩) (own_blk h HR.out (by decide)) (.slice (some ⟨bw, ow + f, none⟩) (t - f) (wc - f)))
      have hJ := fun v (xs : List Int) (h : OwnL wr B 3 1 ic v xs) => ((hI v xs h).far (p := ⟨w.heap.size + 1, 1, none⟩) (own_blk (hI v xs h) HR1.out (by decide)) (.slice pa g.np qc))
      have hW := L_ints ((hJ _ _ HO.out).sl ic_len).1
      have hPC := fun b off e => ((HP.out b off e).1.far (p := ⟨w.heap.size + 1, 0, none⟩) (by have := HPB.out b off e; show w.heap.size + 1 ≠ b; omega) (.slice (some ⟨bw, ow + f, none⟩) (t - f) (wc - f))).far (p := ⟨w.heap.size + 1, 1, none⟩) (by have := HPB.out b off e; show w.heap.size + 1 ≠ b; omega) (.slice pa g.np qc)
      have h0 : ∀ i, i < g.np → ∃ b off, pa = some ⟨b, off, none⟩ := fun i hi => by
        obtain ⟨b, off, e, _⟩ := HPA.out i _ (List.getElem?_eq_getElem (show i < ps.length by omega))
        exact ⟨b, off, e⟩
      have hbe := (hbw.setCell (p := ⟨w.heap.size + 1, 0, none⟩) (show w.heap.size ≤ w.heap.size + 1 by omega) (.slice (some ⟨bw, ow + f, none⟩) (t - f) (wc - f))).setCell (p := ⟨w.heap.size + 1, 1, none⟩) (show w.heap.size ≤ w.heap.size + 1 by omega) (.slice pa g.np qc)
      refine bodyPost_ret (v := .tuple #[.agg #[.slice (some ⟨bw, ow + f, none⟩) (t - f) (wc - f), .slice pa g.np qc], .bool true]) (by simp [results, Try.results30, go_sem, s0, s1]) rfl ⟨_, _, _, _, _, _, rfl, part_at HG.out hn1 HL.out ht hW (HC.out.map hJ) h0 hPC, hbe⟩
end Go.Proofs.Ytmljjofpbonplaa.Mg
