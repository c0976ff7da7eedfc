/-
  Member: the walk of the reference's with.
-/
import Derived.Test.YtoemjpfoddeinaaMwC
import Derived.Deep.RegionLaw
namespace Go.Proofs.Ytoemjpfoddeinaa.Mb
open Go.RowKit Go.Proofs.Ytoemjpfoddeinaa Go.Proofs.Ytoemjpfoddeinaa.Ls Go.Proofs.Ytoemjpfoddeinaa.Kb
open Go.Proofs.Ytoemjpfoddeinaa.Nm hiding ret_bool ret_int

/-- accounts in blocks of accounts -/
def Rw (w : World) (xs : List P) : Prop := ∀ x ∈ xs, OwnL w 0 32 4 acc (sl x) x.1.ac
theorem Rw.nil (w : World) : Rw w [] := fun x hx => by cases hx
theorem Rw.below {w w' : World} {xs : List P} (h : Rw w xs) (hb : Below w.heap.size w w') : Rw w' xs := fun x hx => (h x hx).below hb
theorem at_rw {w : World} {B c : Nat} {a : Option Addr} {xs : List P} (h : OwnL w B 30 5 mec (.slice a xs.length c) xs) (hr : Rw w xs) : AtM w a xs := ⟨(h.sl mec_len).1, fun x hx => ((hr x hx).sl acc_len).1⟩
theorem app_endW {w0 w5 wa w9 : World} {B : Nat} {u : Value} {ys : List P} {y : P} {g9 c9 OUT : Nat}
    (k : Below w0.heap.size w0 w5) (hO : OwnL w5 B 30 5 mec u ys) (hR : Rw w5 ys) (hn : OwnL w5 0 32 4 acc (sl y) y.1.ac) (hwa : Below w5.heap.size w5 wa) (hg : wa.grownBy w9 u.ownBlock)
    (ho9 : OwnL w9 B 30 5 mec (.slice (some ⟨g9, 0, none⟩) (ys.length + 1) c9) (ys ++ [y])) (hout : w5.heap[OUT]? = some (.cells #[u] 24 (0, 0))) (hOB : OUT < B) (h0 : w0.heap.size ≤ OUT) :
    w9.heap[OUT]? = some (.cells #[u] 24 (0, 0)) ∧ (w9.setCell ⟨OUT, 0, none⟩ (.slice (some ⟨g9, 0, none⟩) (ys.length + 1) c9)).heap[OUT]? = some (.cells #[.slice (some ⟨g9, 0, none⟩) (ys.length + 1) c9] 24 (0, 0)) ∧
    OwnL (w9.setCell ⟨OUT, 0, none⟩ (.slice (some ⟨g9, 0, none⟩) (ys.length + 1) c9)) B 30 5 mec (.slice (some ⟨g9, 0, none⟩) (ys.length + 1) c9) (ys ++ [y]) ∧ Rw (w9.setCell ⟨OUT, 0, none⟩ (.slice (some ⟨g9, 0, none⟩) (ys.length + 1) c9)) (ys ++ [y]) ∧
    (∀ (b : Nat) (o : Obj), b < B → b ≠ OUT → w5.heap[b]? = some o → (w9.setCell ⟨OUT, 0, none⟩ (.slice (some ⟨g9, 0, none⟩) (ys.length + 1) c9)).heap[b]? = some o) ∧
    Below w0.heap.size w0 (w9.setCell ⟨OUT, 0, none⟩ (.slice (some ⟨g9, 0, none⟩) (ys.length + 1) c9)) := by
  have hOa := hO.below hwa
  have hne : ∀ (b : Nat) (o : Obj), b < B → w5.heap[b]? = some o → w9.heap[b]? = some o := fun b o hb h => by
    have h1 := blk_keep h hwa
    have hlt := (Array.getElem?_eq_some_iff.1 h1).1
    exact (hg.block b hlt (fun e => by have := (hOa.lt b e.symm).1; omega)).trans h1
  have h9 := hne OUT _ hOB hout
  have hR9 : Rw w9 (ys ++ [y]) := fun x hx => by
    rcases List.mem_append.1 hx with hx | hx
    · exact own_kept ((hR x hx).below hwa) hg (own_ne2 ((hR x hx).below hwa) hOa (by decide))
    · rw [List.mem_singleton] at hx
      subst hx
      exact own_kept (hn.below hwa) hg (own_ne2 (hn.below hwa) hOa (by decide))
  refine ⟨h9, set1 h9 _, ho9.far (p := ⟨OUT, 0, none⟩) (own_blk ho9 h9 (by decide)) _, fun x hx => (hR9 x hx).far (p := ⟨OUT, 0, none⟩) (own_blk (hR9 x hx) h9 (by decide)) _, fun b o hb hbo h => ?_, ?_⟩
  · exact set_other (hne b o hb h) (Ne.symm hbo) _
  · exact ((bt k hwa (Nat.le_refl _)).grown hg (Nat.le_trans k.size hwa.size) (fun j hj => Nat.le_trans (Nat.le_trans h0 (Nat.le_of_lt hOB)) (hOa.lt j hj).1)).setCell (p := ⟨OUT, 0, none⟩) h0 _

theorem fst_snoc (l : List P) (y : P) : fst (l ++ [y]) = fst l ++ [y.1] := by simp [fst]
/-- what with makes of the members, one after another; whether the new one is laid -/
def wF (ms : List Me) (m : Me) : Nat → List Me × Bool
  | 0 => ([], false)
  | k + 1 =>
    let r := wF ms m k
    let x := gm ms k
    let r2 := if !r.2 && !lt x.nm m.nm then (r.1 ++ [m], true) else r
    (if x.nm = m.nm then r2.1 else r2.1 ++ [x], r2.2)
def withF (ms : List Me) (m : Me) : List Me := if (wF ms m ms.length).2 then (wF ms m ms.length).1 else (wF ms m ms.length).1 ++ [m]
theorem wF_len (ms : List Me) (m : Me) (k : Nat) : (wF ms m k).1.length ≤ 2 * k := by
  induction k with
  | zero => simp [wF]
  | succ k ih =>
    unfold wF
    dsimp only
    by_cases h2 : (!(wF ms m k).2 && !lt (gm ms k).nm m.nm) = true
    · rw [if_pos h2]
      by_cases h1 : (gm ms k).nm = m.nm
      · rw [if_pos h1, List.length_append, List.length_singleton]; omega
      · rw [if_neg h1, List.length_append, List.length_append, List.length_singleton, List.length_singleton]; omega
    · rw [if_neg h2]
      by_cases h1 : (gm ms k).nm = m.nm
      · rw [if_pos h1]; omega
      · rw [if_neg h1, List.length_append, List.length_singleton]; omega

set_option maxRecDepth 100000 in
set_option maxHeartbeats 16000000 in
theorem rwith_any (a am : Option Addr) (c cm : Nat) (xs : List P) (m : Me) (w : World) (hn : xs.length ≤ 100) (hZ : ∀ x ∈ xs, x.1.ac.length ≤ 1000) (hA : AtM w a xs) (hM : OwnL w 0 32 4 acc (.slice am m.ac.length cm) m.ac) :
    Calls Try.prog 88 #[.agg #[.slice a xs.length c], .agg #[.string m.nm, .int .u8 m.ro, .bool m.su, .int .i64 m.lim, .slice am m.ac.length cm]] w fun e w' => ∃ a' c' ys, e = .returned (.agg #[.slice a' ys.length c']) ∧ fst ys = withF (fst xs) m ∧ AtM w' a' ys ∧ Below w.heap.size w w' := by
  have HA := Lib.hid hA
  have HZ := Lib.hid hZ
  have HM0 := Lib.hid hM
  clear hA hZ hM
  obtain ⟨B, hB⟩ : ∃ B, B = w.heap.size + 1 + 1 + 1 + 1 := ⟨_, rfl⟩
  have hbo : Below w.heap.size w ((((w.alloc (.cells #[.slice a xs.length c] 24)).alloc (.cells #[.string m.nm, .int .u8 m.ro, .bool m.su, .int .i64 m.lim, .slice am m.ac.length cm] 30)).alloc (.cells #[.slice none 0 0] 24)).alloc (.cells #[.slice none 0 0] 24)) := ((((Below.refl _ _).alloc (Nat.le_refl _) _).alloc (by simp) _).alloc (by simp <;> omega) _).alloc (by simp <;> omega) _
  have h3 := blk_three w (.cells #[.slice a xs.length c] 24) (.cells #[.string m.nm, .int .u8 m.ro, .bool m.su, .int .i64 m.lim, .slice am m.ac.length cm] 30) (.cells #[.slice none 0 0] 24)
  have hn4 := blk_new (((w.alloc (.cells #[.slice a xs.length c] 24)).alloc (.cells #[.string m.nm, .int .u8 m.ro, .bool m.su, .int .i64 m.lim, .slice am m.ac.length cm] 30)).alloc (.cells #[.slice none 0 0] 24)) (.cells #[.slice none 0 0] 24)
  have hsz : (((w.alloc (.cells #[.slice a xs.length c] 24)).alloc (.cells #[.string m.nm, .int .u8 m.ro, .bool m.su, .int .i64 m.lim, .slice am m.ac.length cm] 30)).alloc (.cells #[.slice none 0 0] 24)).heap.size = w.heap.size + 1 + 1 + 1 := by simp
  rw [hsz] at hn4
  have S0 := Lib.hid (blk_past _ (.cells #[.slice none 0 0] 24) h3.1)
  have M0 := Lib.hid (blk_past _ (.cells #[.slice none 0 0] 24) h3.2.1)
  have R0 := Lib.hid (blk_past _ (.cells #[.slice none 0 0] 24) h3.2.2)
  have O0 := Lib.hid hn4
  clear h3 hn4 hsz
  go_enter Try.func88, Try.ntmps88
  go_wp2_with fail
  generalize hwo : (((w.alloc _).alloc _).alloc _).alloc _ = wo at hbo S0 M0 R0 O0 ⊢
  clear hwo
  go_loopw [6, 7] (fun p i wr => ∃ (k : Nat) (ys : List P) (u : Value), k ≤ xs.length ∧ i = .int .i64 k ∧ p = .bool (wF (fst xs) m k).2 ∧ Hid (fst ys = (wF (fst xs) m k).1) ∧ Hid (OwnL wr B 30 5 mec u ys) ∧ Hid (Rw wr ys) ∧
      Hid (wr.heap[w.heap.size]? = some (.cells #[.slice a xs.length c] 24 (0, 0))) ∧ Hid (wr.heap[w.heap.size + 1]? = some (.cells #[.string m.nm, .int .u8 m.ro, .bool m.su, .int .i64 m.lim, .slice am m.ac.length cm] 30 (0, 0))) ∧ Hid (wr.heap[w.heap.size + 1 + 1]? = some (.cells #[.slice none 0 0] 24 (0, 0))) ∧
      Hid (wr.heap[w.heap.size + 1 + 1 + 1]? = some (.cells #[u] 24 (0, 0))) ∧ Hid (Below w.heap.size w wr)) (fun _ i _ => xs.length - (intOf i).toNat)
  case atStart => exact ⟨0, [], .slice none 0 0, by omega, rfl, rfl, rfl, OwnL.nil _ _ _ _ _, Rw.nil _, S0, M0, R0, O0, hbo⟩
  case round =>
    clear S0 M0 R0 O0 hbo
    obtain ⟨k, ys, u, hk, rfl, rfl, HY, HO, HW, HS, HMB, HRB, HOB, HB⟩ := hrel
    have hlen : ys.length ≤ 2 * k := by rw [← fst_len, HY.out]; exact wF_len _ _ _
    have hBs : B ≤ wr.heap.size := by rw [hB]; exact blk_lt HOB.out
    have x0 := cell_of HS.out 0 _ rfl
    by_cases hlt : k < xs.length
    · have k0 : (0 : Int) ≤ k := by omega
      have k1 : (k : Int) < xs.length := by omega
      obtain ⟨b, off, rfl, q0, q1, q2, q3, q4⟩ := at_p (HA.out.below HB.out).ms k hlt
      have HAC := Lib.hid (HA.out.ac _ (gp_mem xs k hlt))
      have HLN := Lib.hid (HZ.out _ (gp_mem xs k hlt))
      have HWF := Lib.hid (show wF (fst xs) m (k + 1) = (let r := wF (fst xs) m k; let r2 := if !r.2 && !lt (gp xs k).1.nm m.nm then (r.1 ++ [m], true) else r; (if (gp xs k).1.nm = m.nm then r2.1 else r2.1 ++ [(gp xs k).1], r2.2)) by rw [← gm_fst]; rfl)
      have HQ := Lib.hid (show ∀ wx, Below w.heap.size w wx → _ ∧ _ ∧ _ ∧ _ ∧ _ from fun wx h => at_p' (HA.out.below h).ms k hlt)
      generalize gp xs k = x at q0 q1 q2 q3 q4 HAC HLN HWF HQ
      generalize wF (fst xs) m k = r at HY HWF ⊢
      obtain ⟨ol, p⟩ := r
      obtain ⟨x, pa, pc⟩ := x
      dsimp only at q0 q1 q2 q3 q4 HY HWF HLN HAC HQ
      have m0 := cell_of HMB.out 0 _ rfl
      have HMW := Lib.hid (show ∀ wx, Below w.heap.size w wx → OwnL wx 0 32 4 acc (.slice am m.ac.length cm) m.ac from fun wx h => HM0.out.below h)
      cases p
      case true =>
        have HYS := Lib.hid (show fst ys = ol from HY.out)
        by_cases hx : x.nm = m.nm
        case pos =>
          have HW' := Lib.hid (show wF (fst xs) m (k + 1) = (ol, true) by rw [HWF.out]; simp [hx])
          have g1 := neq_no hx
          have g2 := eq_yes hx
          clear hx q1 q2 q3 q4
          go_wp2_with fail
          go_quiet (fail)
          go_wp2_with fail
          go_quiet (fail)
          go_wp2
          generalize hwn : World.drewN _ _ = wn
          have kb : Below wr.heap.size wr wn := by rw [← hwn]; first | exact below_drewN (Below.refl _ _) _ | exact below_drewN (below_drewN (Below.refl _ _) _) _
          clear hwn
          have HO1 := Lib.hid (HO.out.below kb)
          have HW1 := Lib.hid (HW.out.below kb)
          have HS1 := Lib.hid (blk_keep HS.out kb)
          have HMB1 := Lib.hid (blk_keep HMB.out kb)
          have HRB1 := Lib.hid (blk_keep HRB.out kb)
          have HOB1 := Lib.hid (blk_keep HOB.out kb)
          have HB1 := Lib.hid (bt HB.out kb (Nat.le_refl _))
          go_roundw
          case rel => exact ⟨k + 1, _, _, by omega, by go_num, by rw [HW'.out], by rw [HW'.out]; exact HYS.out, HO1.out, HW1.out, HS1, HMB1, HRB1, HOB1, HB1⟩
          case measure => simp [intOf]; omega
        case neg =>
          have HW' := Lib.hid (show wF (fst xs) m (k + 1) = (ol ++ [x], true) by rw [HWF.out]; simp [hx])
          have g1 := neq_yes hx
          have g2 := eq_no hx
          clear hx q1 q2 q3 q4
          go_wp2_with fail
          go_quiet (fail)
          go_wp2_with fail
          go_quiet (fail)
          go_upto_region 10 with fail
          generalize hwn : World.drewN _ _ = wn
          have kb : Below wr.heap.size wr wn := by rw [← hwn]; first | exact below_drewN (Below.refl _ _) _ | exact below_drewN (below_drewN (Below.refl _ _) _) _
          clear hwn
          have HO1 := Lib.hid (HO.out.below kb)
          have HW1 := Lib.hid (HW.out.below kb)
          have HS1 := Lib.hid (blk_keep HS.out kb)
          have HMB1 := Lib.hid (blk_keep HMB.out kb)
          have HRB1 := Lib.hid (blk_keep HRB.out kb)
          have HOB1 := Lib.hid (blk_keep HOB.out kb)
          have HB1 := Lib.hid (bt HB.out kb (Nat.le_refl _))
          clear q0 x0 m0
          have HBn := HB1
          obtain ⟨q0, q1, q2, q3, q4⟩ := HQ.out _ HB1.out
          have x0 := cell_of HS1.out 0 _ rfl
          have t0 := cell_of HOB1.out 0 _ rfl
          have hBn : B ≤ wn.heap.size := by rw [hB]; exact blk_lt HOB1.out
          have hT1 := blk_lt HOB1.out
          have HTW := Lib.hid (fun wx (h : Below wn.heap.size wn wx) => rtwin_any (x, (pa, pc)) wx HLN.out (HAC.out.below (bt HB1.out h (Nat.le_refl _))))
          have HXK := Lib.hid (show ∀ wx, Below wn.heap.size wn wx → wx.cell? ⟨w.heap.size, 0, none⟩ = some (.slice (some ⟨b, off, none⟩) xs.length c) from fun wx h => keep x0 h)
          have k0' : Below wn.heap.size wn wn := Below.refl _ _
          have kd' := k0'.drew
          go_wp2_with fail
          go_region_law (first
              | (refine step_append_L (P := Try.prog) (α := P) rfl _ _ _ rfl 30 (Value.agg #[.string ⟨#[]⟩, .int .u8 0, .bool false, .int .i64 0, .slice none 0 0]) 5 56 Try.underlying22 info_mec rfl (by decide) B mec u ys (x, (a5, c5)) w5.heap.size #[.string x.nm, .int .u8 x.ro, .bool x.su, .int .i64 x.lim, .slice a5 x.ac.length c5] (by rfl) (by rfl) (by first | exact HO5.out.below ((Below.refl _ _).alloc (Nat.le_refl _) _) | exact HO5.out.below ((Below.refl _ _).drew.alloc (Nat.le_refl _) _) | exact HO5.out.below ((Below.refl _ _).alloc (Nat.le_refl _) _).drew) (by first | exact blk_new _ _ | exact blk_new w5 _) rfl rfl (mec_one _) (by skip; unfold maxLen; omega) (by skip; omega) (by simp; omega) ?_; intro g9 c9 w9 ho9 hg9 hat9; have HE := Lib.hid (app_endW (y := (x, (a5, c5))) (OUT := w.heap.size + 1 + 1 + 1) HB5.out HO5.out HW5.out HN5.out (by first | exact (Below.refl _ _).alloc (Nat.le_refl _) _ | exact ((Below.refl _ _).alloc (Nat.le_refl _) _).drew | exact (Below.refl _ _).drew.alloc (Nat.le_refl _) _) hg9 ho9 HT5.out (by omega) (by omega)); have n0 := cell_of HE.out.1 0 _ rfl; have nf := frozen_of HE.out.1 0)
              | (go_simp; go_at_call 36; refine (HTW.out _ (by first | assumption | exact Below.drew (by assumption))).mono ?_; rintro e w5 ⟨a5, c5, rfl, ho5, hb5⟩; have k5 : Below wn.heap.size wn w5 := bt (by first | assumption | exact Below.drew (by assumption)) hb5 (Nat.le_refl _); have HO5 := Lib.hid (HO1.out.below k5); have HW5 := Lib.hid (HW1.out.below k5); have HT5 := Lib.hid (blk_keep HOB1.out k5); have HB5 := Lib.hid (bt HB1.out k5 (Nat.le_refl _)); have HN5 := Lib.hid (show OwnL w5 0 32 4 acc (.slice a5 x.ac.length c5) x.ac from ho5.lower' (Nat.zero_le _)); have hT5 := blk_lt HT5.out; have h5B : B ≤ w5.heap.size := Nat.le_trans hBn k5.size; have t5 := cell_of HT5.out 0 _ rfl))
          all_goals
            have HS9 := Lib.hid (HE.out.2.2.2.2.1 w.heap.size _ (by omega) (by omega) (blk_keep HS1.out k5))
            have HMB9 := Lib.hid (HE.out.2.2.2.2.1 (w.heap.size + 1) _ (by omega) (by omega) (blk_keep HMB1.out k5))
            have HRB9 := Lib.hid (HE.out.2.2.2.2.1 (w.heap.size + 1 + 1) _ (by omega) (by omega) (blk_keep HRB1.out k5))
            clear hg9 ho9 hat9
            go_wp2
            go_roundw
            case rel => exact ⟨k + 1, _, _, by omega, by go_num, by rw [HW'.out], by rw [HW'.out]; exact (fst_snoc _ _).trans (congrArg (fun l => l ++ [x]) HYS.out), HE.out.2.2.1, HE.out.2.2.2.1, HS9, HMB9, HRB9, HE.out.2.1, HE.out.2.2.2.2.2⟩
            case measure => simp [intOf]; omega
      case false =>
        obtain ⟨s, hs⟩ : ∃ s, s = lt x.nm m.nm := ⟨_, rfl⟩
        have hs1 : Op.bytesLess x.nm.toList m.nm.toList = s := hs.symm
        have HSS := Lib.hid hs
        clear hs
        cases s
        case true =>
          have HYS := Lib.hid (show fst ys = ol from HY.out)
          have hx : x.nm ≠ m.nm := fun e => by have := HSS.out; rw [e, lt_irrefl] at this; cases this
          have HW' := Lib.hid (show wF (fst xs) m (k + 1) = (ol ++ [x], false) by rw [HWF.out, ← HSS.out]; simp [hx])
          have g1 := neq_yes hx
          have g2 := eq_no hx
          clear hx q1 q2 q3 q4
          go_wp2_with fail
          go_quiet (fail)
          go_wp2_with fail
          go_quiet (fail)
          go_upto_region 10 with fail
          generalize hwn : World.drewN _ _ = wn
          have kb : Below wr.heap.size wr wn := by rw [← hwn]; first | exact below_drewN (Below.refl _ _) _ | exact below_drewN (below_drewN (Below.refl _ _) _) _
          clear hwn
          have HO1 := Lib.hid (HO.out.below kb)
          have HW1 := Lib.hid (HW.out.below kb)
          have HS1 := Lib.hid (blk_keep HS.out kb)
          have HMB1 := Lib.hid (blk_keep HMB.out kb)
          have HRB1 := Lib.hid (blk_keep HRB.out kb)
          have HOB1 := Lib.hid (blk_keep HOB.out kb)
          have HB1 := Lib.hid (bt HB.out kb (Nat.le_refl _))
          clear q0 x0 m0
          have HBn := HB1
          obtain ⟨q0, q1, q2, q3, q4⟩ := HQ.out _ HB1.out
          have x0 := cell_of HS1.out 0 _ rfl
          have t0 := cell_of HOB1.out 0 _ rfl
          have hBn : B ≤ wn.heap.size := by rw [hB]; exact blk_lt HOB1.out
          have hT1 := blk_lt HOB1.out
          have HTW := Lib.hid (fun wx (h : Below wn.heap.size wn wx) => rtwin_any (x, (pa, pc)) wx HLN.out (HAC.out.below (bt HB1.out h (Nat.le_refl _))))
          have HXK := Lib.hid (show ∀ wx, Below wn.heap.size wn wx → wx.cell? ⟨w.heap.size, 0, none⟩ = some (.slice (some ⟨b, off, none⟩) xs.length c) from fun wx h => keep x0 h)
          have k0' : Below wn.heap.size wn wn := Below.refl _ _
          have kd' := k0'.drew
          go_wp2_with fail
          go_region_law (first
              | (refine step_append_L (P := Try.prog) (α := P) rfl _ _ _ rfl 30 (Value.agg #[.string ⟨#[]⟩, .int .u8 0, .bool false, .int .i64 0, .slice none 0 0]) 5 56 Try.underlying22 info_mec rfl (by decide) B mec u ys (x, (a5, c5)) w5.heap.size #[.string x.nm, .int .u8 x.ro, .bool x.su, .int .i64 x.lim, .slice a5 x.ac.length c5] (by rfl) (by rfl) (by first | exact HO5.out.below ((Below.refl _ _).alloc (Nat.le_refl _) _) | exact HO5.out.below ((Below.refl _ _).drew.alloc (Nat.le_refl _) _) | exact HO5.out.below ((Below.refl _ _).alloc (Nat.le_refl _) _).drew) (by first | exact blk_new _ _ | exact blk_new w5 _) rfl rfl (mec_one _) (by skip; unfold maxLen; omega) (by skip; omega) (by simp; omega) ?_; intro g9 c9 w9 ho9 hg9 hat9; have HE := Lib.hid (app_endW (y := (x, (a5, c5))) (OUT := w.heap.size + 1 + 1 + 1) HB5.out HO5.out HW5.out HN5.out (by first | exact (Below.refl _ _).alloc (Nat.le_refl _) _ | exact ((Below.refl _ _).alloc (Nat.le_refl _) _).drew | exact (Below.refl _ _).drew.alloc (Nat.le_refl _) _) hg9 ho9 HT5.out (by omega) (by omega)); have n0 := cell_of HE.out.1 0 _ rfl; have nf := frozen_of HE.out.1 0)
              | (go_simp; go_at_call 36; refine (HTW.out _ (by first | assumption | exact Below.drew (by assumption))).mono ?_; rintro e w5 ⟨a5, c5, rfl, ho5, hb5⟩; have k5 : Below wn.heap.size wn w5 := bt (by first | assumption | exact Below.drew (by assumption)) hb5 (Nat.le_refl _); have HO5 := Lib.hid (HO1.out.below k5); have HW5 := Lib.hid (HW1.out.below k5); have HT5 := Lib.hid (blk_keep HOB1.out k5); have HB5 := Lib.hid (bt HB1.out k5 (Nat.le_refl _)); have HN5 := Lib.hid (show OwnL w5 0 32 4 acc (.slice a5 x.ac.length c5) x.ac from ho5.lower' (Nat.zero_le _)); have hT5 := blk_lt HT5.out; have h5B : B ≤ w5.heap.size := Nat.le_trans hBn k5.size; have t5 := cell_of HT5.out 0 _ rfl))
          all_goals
            have HS9 := Lib.hid (HE.out.2.2.2.2.1 w.heap.size _ (by omega) (by omega) (blk_keep HS1.out k5))
            have HMB9 := Lib.hid (HE.out.2.2.2.2.1 (w.heap.size + 1) _ (by omega) (by omega) (blk_keep HMB1.out k5))
            have HRB9 := Lib.hid (HE.out.2.2.2.2.1 (w.heap.size + 1 + 1) _ (by omega) (by omega) (blk_keep HRB1.out k5))
            clear hg9 ho9 hat9
            go_wp2
            go_roundw
            case rel => exact ⟨k + 1, _, _, by omega, by go_num, by rw [HW'.out], by rw [HW'.out]; exact (fst_snoc _ _).trans (congrArg (fun l => l ++ [x]) HYS.out), HE.out.2.2.1, HE.out.2.2.2.1, HS9, HMB9, HRB9, HE.out.2.1, HE.out.2.2.2.2.2⟩
            case measure => simp [intOf]; omega
        case false =>
          clear q1 q2 q3 q4
          go_wp2_with fail
          go_quiet (fail)
          go_upto_region 7 with fail
          generalize hwn : World.drewN _ _ = wn
          have kb : Below wr.heap.size wr wn := by rw [← hwn]; first | exact below_drewN (Below.refl _ _) _ | exact below_drewN (below_drewN (Below.refl _ _) _) _
          clear hwn
          have HO1 := Lib.hid (HO.out.below kb)
          have HW1 := Lib.hid (HW.out.below kb)
          have HS1 := Lib.hid (blk_keep HS.out kb)
          have HMB1 := Lib.hid (blk_keep HMB.out kb)
          have HRB1 := Lib.hid (blk_keep HRB.out kb)
          have HOB1 := Lib.hid (blk_keep HOB.out kb)
          have HB1 := Lib.hid (bt HB.out kb (Nat.le_refl _))
          clear q0 x0 m0 kb
          have hBn : B ≤ wn.heap.size := by rw [hB]; exact blk_lt HOB1.out
          have m0 := cell_of HMB1.out 0 _ rfl
          have m1 := cell_of HMB1.out 1 _ rfl
          have m2 := cell_of HMB1.out 2 _ rfl
          have m3 := cell_of HMB1.out 3 _ rfl
          have m4 := cell_of HMB1.out 4 _ rfl
          have o0 := cell_of HOB1.out 0 _ rfl
          have ol0 := blk_lt HOB1.out
          obtain ⟨ao, co, rfl, _, _, _⟩ := HO1.out.read mec_len
          go_upto_region 9 with (at_builtin; refine wpList_append_L (w := wn.alloc (.cells #[.string m.nm, .int .u8 m.ro, .bool m.su, .int .i64 m.lim, .slice am m.ac.length cm] 30)) (P := Try.prog) (α := P) rfl _ _ _ rfl 30 (Value.agg #[.string ⟨#[]⟩, .int .u8 0, .bool false, .int .i64 0, .slice none 0 0]) 5 56 Try.underlying22 info_mec rfl (by decide) B mec (.slice ao ys.length co) ys (m, (am, cm)) wn.heap.size #[.string m.nm, .int .u8 m.ro, .bool m.su, .int .i64 m.lim, .slice am m.ac.length cm] rfl rfl (HO1.out.below ((Below.refl _ _).alloc (Nat.le_refl _) _)) (blk_new wn _) rfl rfl (mec_one _) (by unfold maxLen; omega) (by omega) (by simp; omega) ?_; intro g9 c9 w9 ho9 hg9 hat9; have HE := Lib.hid (app_endW (y := (m, (am, cm))) (OUT := w.heap.size + 1 + 1 + 1) HB1.out HO1.out HW1.out (HMW.out _ HB1.out) ((Below.refl _ _).alloc (Nat.le_refl _) _) hg9 ho9 HOB1.out (by omega) (by omega)); have n0 := cell_of HE.out.1 0 _ rfl; have nf := frozen_of HE.out.1 0; have HS2 := Lib.hid (HE.out.2.2.2.2.1 w.heap.size _ (by omega) (by omega) HS1.out); have HMB2 := Lib.hid (HE.out.2.2.2.2.1 (w.heap.size + 1) _ (by omega) (by omega) HMB1.out); have HRB2 := Lib.hid (HE.out.2.2.2.2.1 (w.heap.size + 1 + 1) _ (by omega) (by omega) HRB1.out); clear hg9 ho9 hat9)
          have HO2 := Lib.hid HE.out.2.2.1
          have HW2 := Lib.hid HE.out.2.2.2.1
          have HOB2 := Lib.hid HE.out.2.1
          have HB2 := Lib.hid HE.out.2.2.2.2.2
          clear HE n0 nf m0 m1 m2 m3 m4 o0 ol0 HO1 HW1 HS1 HMB1 HRB1 HOB1 HB1
          generalize w9.setCell ⟨w.heap.size + 1 + 1 + 1, 0, none⟩ _ = w2 at HO2 HW2 HOB2 HB2 HS2 HMB2 HRB2 ⊢
          obtain ⟨q0, _⟩ := HQ.out _ HB2.out
          have x0 := cell_of HS2.out 0 _ rfl
          have m0 := cell_of HMB2.out 0 _ rfl
          by_cases hx : x.nm = m.nm
          case pos =>
            have HYS := Lib.hid (show fst (ys ++ [((m, (am, cm)) : P)]) = ol ++ [m] by rw [← HY.out]; simp [fst])
            have HW' := Lib.hid (show wF (fst xs) m (k + 1) = (ol ++ [m], true) by rw [HWF.out, ← HSS.out]; simp [hx])
            have g1 := neq_no hx
            have g2 := eq_yes hx
            clear hx
            go_wp2_with fail
            go_quiet (fail)
            go_wp2
            generalize hwn : World.drewN _ _ = w3
            have kb : Below w2.heap.size w2 w3 := by rw [← hwn]; first | exact below_drewN (Below.refl _ _) _ | exact below_drewN (below_drewN (Below.refl _ _) _) _
            clear hwn
            have HO3 := Lib.hid (HO2.out.below kb)
            have HW3 := Lib.hid (HW2.out.below kb)
            have HS3 := Lib.hid (blk_keep HS2.out kb)
            have HMB3 := Lib.hid (blk_keep HMB2.out kb)
            have HRB3 := Lib.hid (blk_keep HRB2.out kb)
            have HOB3 := Lib.hid (blk_keep HOB2.out kb)
            have HB3 := Lib.hid (bt HB2.out kb (Nat.le_refl _))
            go_roundw
            case rel => exact ⟨k + 1, _, _, by omega, by go_num, by rw [HW'.out], by rw [HW'.out]; exact HYS.out, HO3.out, HW3.out, HS3, HMB3, HRB3, HOB3, HB3⟩
            case measure => simp [intOf]; omega
          case neg =>
            have HYS := Lib.hid (show fst (ys ++ [((m, (am, cm)) : P)]) = ol ++ [m] by rw [← HY.out]; simp [fst])
            have HW' := Lib.hid (show wF (fst xs) m (k + 1) = (ol ++ [m] ++ [x], true) by rw [HWF.out, ← HSS.out]; simp [hx])
            have g1 := neq_yes hx
            have g2 := eq_no hx
            clear hx
            go_wp2_with fail
            go_quiet (fail)
            go_upto_region 10 with fail
            generalize hwn : World.drewN _ _ = w3
            have kb : Below w2.heap.size w2 w3 := by rw [← hwn]; first | exact below_drewN (Below.refl _ _) _ | exact below_drewN (below_drewN (Below.refl _ _) _) _
            clear hwn
            have HO3 := Lib.hid (HO2.out.below kb)
            have HW3 := Lib.hid (HW2.out.below kb)
            have HS3 := Lib.hid (blk_keep HS2.out kb)
            have HMB3 := Lib.hid (blk_keep HMB2.out kb)
            have HRB3 := Lib.hid (blk_keep HRB2.out kb)
            have HOB3 := Lib.hid (blk_keep HOB2.out kb)
            have HB3 := Lib.hid (bt HB2.out kb (Nat.le_refl _))
            clear q0 x0 m0
            have hl1 : (ys ++ [((m, (am, cm)) : P)]).length = ys.length + 1 := by simp
            obtain ⟨ys2, hys2⟩ : ∃ l, l = ys ++ [((m, (am, cm)) : P)] := ⟨_, rfl⟩
            rw [← hys2] at HO3 HW3 HYS hl1
            clear hys2
            have HBn := HB3
            obtain ⟨q0, q1, q2, q3, q4⟩ := HQ.out _ HB3.out
            have x0 := cell_of HS3.out 0 _ rfl
            have t0 := cell_of HOB3.out 0 _ rfl
            have hBn : B ≤ w3.heap.size := by rw [hB]; exact blk_lt HOB3.out
            have hT1 := blk_lt HOB3.out
            have HTW := Lib.hid (fun wx (h : Below w3.heap.size w3 wx) => rtwin_any (x, (pa, pc)) wx HLN.out (HAC.out.below (bt HB3.out h (Nat.le_refl _))))
            have HXK := Lib.hid (show ∀ wx, Below w3.heap.size w3 wx → wx.cell? ⟨w.heap.size, 0, none⟩ = some (.slice (some ⟨b, off, none⟩) xs.length c) from fun wx h => keep x0 h)
            have k0' : Below w3.heap.size w3 w3 := Below.refl _ _
            have kd' := k0'.drew
            go_wp2_with fail
            go_region_law (first
                | (refine step_append_L (P := Try.prog) (α := P) rfl _ _ _ rfl 30 (Value.agg #[.string ⟨#[]⟩, .int .u8 0, .bool false, .int .i64 0, .slice none 0 0]) 5 56 Try.underlying22 info_mec rfl (by decide) B mec (.slice (some ⟨g9, 0, none⟩) (ys.length + 1) c9) ys2 (x, (a5, c5)) w5.heap.size #[.string x.nm, .int .u8 x.ro, .bool x.su, .int .i64 x.lim, .slice a5 x.ac.length c5] (by rfl) (by rfl) (by first | exact HO5.out.below ((Below.refl _ _).alloc (Nat.le_refl _) _) | exact HO5.out.below ((Below.refl _ _).drew.alloc (Nat.le_refl _) _) | exact HO5.out.below ((Below.refl _ _).alloc (Nat.le_refl _) _).drew) (by first | exact blk_new _ _ | exact blk_new w5 _) rfl rfl (mec_one _) (by skip; unfold maxLen; omega) (by skip; omega) (by simp; omega) ?_; intro g9 c9 w9 ho9 hg9 hat9; have HE := Lib.hid (app_endW (y := (x, (a5, c5))) (OUT := w.heap.size + 1 + 1 + 1) HB5.out HO5.out HW5.out HN5.out (by first | exact (Below.refl _ _).alloc (Nat.le_refl _) _ | exact ((Below.refl _ _).alloc (Nat.le_refl _) _).drew | exact (Below.refl _ _).drew.alloc (Nat.le_refl _) _) hg9 ho9 HT5.out (by omega) (by omega)); have n0 := cell_of HE.out.1 0 _ rfl; have nf := frozen_of HE.out.1 0)
                | (go_simp; go_at_call 36; refine (HTW.out _ (by first | assumption | exact Below.drew (by assumption))).mono ?_; rintro e w5 ⟨a5, c5, rfl, ho5, hb5⟩; have k5 : Below w3.heap.size w3 w5 := bt (by first | assumption | exact Below.drew (by assumption)) hb5 (Nat.le_refl _); have HO5 := Lib.hid (HO3.out.below k5); have HW5 := Lib.hid (HW3.out.below k5); have HT5 := Lib.hid (blk_keep HOB3.out k5); have HB5 := Lib.hid (bt HB3.out k5 (Nat.le_refl _)); have HN5 := Lib.hid (show OwnL w5 0 32 4 acc (.slice a5 x.ac.length c5) x.ac from ho5.lower' (Nat.zero_le _)); have hT5 := blk_lt HT5.out; have h5B : B ≤ w5.heap.size := Nat.le_trans hBn k5.size; have t5 := cell_of HT5.out 0 _ rfl))
            all_goals
              have HS9 := Lib.hid (HE.out.2.2.2.2.1 w.heap.size _ (by omega) (by omega) (blk_keep HS3.out k5))
              have HMB9 := Lib.hid (HE.out.2.2.2.2.1 (w.heap.size + 1) _ (by omega) (by omega) (blk_keep HMB3.out k5))
              have HRB9 := Lib.hid (HE.out.2.2.2.2.1 (w.heap.size + 1 + 1) _ (by omega) (by omega) (blk_keep HRB3.out k5))
              clear hg9 ho9 hat9
              rw [hl1] at HE HS9 HMB9 HRB9
              go_wp2
              go_roundw
              case rel => exact ⟨k + 1, _, _, by omega, by go_num, by rw [HW'.out], by rw [HW'.out]; exact (fst_snoc _ _).trans (congrArg (fun l => l ++ [x]) HYS.out), HE.out.2.2.1, HE.out.2.2.2.1, HS9, HMB9, HRB9, HE.out.2.1, HE.out.2.2.2.2.2⟩
              case measure => simp [intOf]; omega
    · obtain rfl : k = xs.length := by omega
      obtain ⟨ao, co, rfl, _, _, _⟩ := HO.out.read mec_len
      have hk1 : ¬ (xs.length : Int) < xs.length := by omega
      have o0 := cell_of HOB.out 0 _ rfl
      have r0 := cell_of HRB.out 0 _ rfl
      have rf := frozen_of HRB.out 0
      have HWI := Lib.hid (show withF (fst xs) m = (if (wF (fst xs) m xs.length).2 then (wF (fst xs) m xs.length).1 else (wF (fst xs) m xs.length).1 ++ [m]) by unfold withF; rw [fst_len])
      generalize wF (fst xs) m xs.length = r at HY HWI ⊢
      obtain ⟨ol, p⟩ := r
      dsimp only at HY HWI
      cases p
      case true =>
        have HWT := Lib.hid (show withF (fst xs) m = ol from HWI.out)
        go_wp2_with fail
        have h5 := set1 HRB.out (.slice ao ys.length co)
        have s0 := cell_of h5 0 _ rfl
        have hne := own_blk HO.out HRB.out (by decide)
        have hO2 := HO.out.far (p := ⟨w.heap.size + 1 + 1, 0, none⟩) hne (.slice ao ys.length co)
        have hW2 : Rw (wr.setCell ⟨w.heap.size + 1 + 1, 0, none⟩ (.slice ao ys.length co)) ys := fun y hy => (HW.out y hy).far (p := ⟨w.heap.size + 1 + 1, 0, none⟩) (own_blk (HW.out y hy) HRB.out (by decide)) _
        refine bodyPost_ret (v := .agg #[.slice ao ys.length co]) (by simp [results, Try.results88, go_sem, s0]) rfl ⟨ao, co, ys, rfl, by rw [HWT.out, HY.out], at_rw hO2 hW2, HB.out.setCell (p := ⟨w.heap.size + 1 + 1, 0, none⟩) (by show w.heap.size ≤ w.heap.size + 1 + 1; omega) _⟩
      case false =>
        have HWT := Lib.hid (show withF (fst xs) m = ol ++ [m] from HWI.out)
        have m0 := cell_of HMB.out 0 _ rfl
        have m1 := cell_of HMB.out 1 _ rfl
        have m2 := cell_of HMB.out 2 _ rfl
        have m3 := cell_of HMB.out 3 _ rfl
        have m4 := cell_of HMB.out 4 _ rfl
        have hwl := blk_lt HRB.out
        have hol := HO.out.lt
        go_wp2_with (at_builtin; refine wpList_append_L (w := wr.alloc (.cells #[.string m.nm, .int .u8 m.ro, .bool m.su, .int .i64 m.lim, .slice am m.ac.length cm] 30)) (P := Try.prog) (α := P) rfl _ _ _ rfl 30 (Value.agg #[.string ⟨#[]⟩, .int .u8 0, .bool false, .int .i64 0, .slice none 0 0]) 5 56 Try.underlying22 info_mec rfl (by decide) B mec (.slice ao ys.length co) ys (m, (am, cm)) wr.heap.size #[.string m.nm, .int .u8 m.ro, .bool m.su, .int .i64 m.lim, .slice am m.ac.length cm] rfl rfl (HO.out.below ((Below.refl _ _).alloc (Nat.le_refl _) _)) (blk_new wr _) rfl rfl (mec_one _) (by unfold maxLen; omega) (by omega) (by simp; omega) ?_; intro g9 c9 w9 ho9 hg9 hat9; have HE := Lib.hid (app_endW (y := (m, (am, cm))) (OUT := w.heap.size + 1 + 1 + 1) HB.out HO.out HW.out (HM0.out.below HB.out) ((Below.refl _ _).alloc (Nat.le_refl _) _) hg9 ho9 HOB.out (by omega) (by omega)); have n0 := cell_of HE.out.1 0 _ rfl; have nf := frozen_of HE.out.1 0; have RE := Lib.hid (HE.out.2.2.2.2.1 (w.heap.size + 1 + 1) _ (by omega) (by omega) HRB.out); have re := cell_of RE.out 0 _ rfl; have ref := frozen_of RE.out 0; clear hg9 ho9 hat9)
        have hO1 := HE.out.2.2.1
        have hW1 := HE.out.2.2.2.1
        have hl1 : (ys ++ [((m, (am, cm)) : P)]).length = ys.length + 1 := by simp
        generalize w9.setCell ⟨w.heap.size + 1 + 1 + 1, 0, none⟩ _ = wz at HE RE hO1 hW1 re ref ⊢
        have h5 := set1 RE.out (.slice (some ⟨g9, 0, none⟩) (ys.length + 1) c9)
        have s0 := cell_of h5 0 _ rfl
        have hO2 := hO1.far (p := ⟨w.heap.size + 1 + 1, 0, none⟩) (own_blk hO1 RE.out (by decide)) (.slice (some ⟨g9, 0, none⟩) (ys.length + 1) c9)
        have hW2 : Rw (wz.setCell ⟨w.heap.size + 1 + 1, 0, none⟩ (.slice (some ⟨g9, 0, none⟩) (ys.length + 1) c9)) (ys ++ [(m, (am, cm))]) := fun y hy => (hW1 y hy).far (p := ⟨w.heap.size + 1 + 1, 0, none⟩) (own_blk (hW1 y hy) RE.out (by decide)) _
        refine bodyPost_ret (v := .agg #[.slice (some ⟨g9, 0, none⟩) (ys.length + 1) c9]) (by simp [results, Try.results88, go_sem, s0]) rfl ⟨some ⟨g9, 0, none⟩, c9, ys ++ [(m, (am, cm))], by rw [hl1], by rw [HWT.out, ← HY.out]; simp [fst], at_rw (by rw [hl1]; exact hO2) hW2, HE.out.2.2.2.2.2.setCell (p := ⟨w.heap.size + 1 + 1, 0, none⟩) (by show w.heap.size ≤ w.heap.size + 1 + 1; omega) _⟩
end Go.Proofs.Ytoemjpfoddeinaa.Mb
