/-
  Member: what a call returns; the walk of change, whatever the function is that it is handed.
-/
import Derived.Test.YtoemjpfoddeinaaMb8
namespace Go.Proofs.Ytoemjpfoddeinaa.Mb
open Go.RowKit Go.Proofs.Ytoemjpfoddeinaa Go.Proofs.Ytoemjpfoddeinaa.Ls Go.Proofs.Ytoemjpfoddeinaa.Kb
open Go.Proofs.Ytoemjpfoddeinaa.Nm hiding ret_bool ret_int

/-- a state and an error are returned -/
def RPost (r : R) (w : World) : Ending → World → Prop := fun e w' => ∃ a' c' ys, e = .returned (.tuple #[.agg #[.slice a' ys.length c'], .int .i64 r.2]) ∧ fst ys = r.1 ∧ OwnM w' w.heap.size a' c' ys ∧ Below w.heap.size w w'
/-- what the function that change is handed does -/
def DoPost (f : Me → Me × Int) (B g cap i : Nat) (ys : List P) (wx : World) : Ending → World → Prop := fun e w' => e = .returned (.int .i64 (f (gp ys i).1).2) ∧ Below B wx w' ∧
  (∀ (b : Nat) (cs : Array Value), wx.heap[b]? = some (.cells cs 24 (0, 0)) → w'.heap[b]? = some (.cells cs 24 (0, 0))) ∧
  ((f (gp ys i).1).2 = 0 → ∃ y : P, y.1 = (f (gp ys i).1).1 ∧ OwnM w' B (some ⟨g, 0, none⟩) cap (ys.set i y))
theorem gp_set (xs : List P) (i : Nat) (y : P) (h : i < xs.length) : gp (xs.set i y) i = y := by
  unfold gp
  rw [List.getD_eq_getElem?_getD, List.getElem?_set_self h]
  rfl
theorem fst_set (xs : List P) (i : Nat) (y : P) : fst (xs.set i y) = (fst xs).set i y.1 := by simp [fst, List.map_set]
theorem gp_fst_eq {xs ys : List P} (h : fst ys = fst xs) (i : Nat) : (gp ys i).1 = (gp xs i).1 := by rw [← gm_fst, h, gm_fst]
theorem own_some {w : World} {B : Nat} {a : Option Addr} {c : Nat} {xs : List P} (h : OwnM w B a c xs) (hn : 0 < xs.length) : ∃ g, a = some ⟨g, 0, none⟩ ∧ B ≤ g := by
  obtain ⟨g, _, h1, _, h2, _⟩ := h.ms.row hn
  exact ⟨g, h1, h2⟩
theorem set1 {w : World} {B : Nat} {a0 : Value} {t : TypeId} (h : w.heap[B]? = some (.cells #[a0] t (0, 0))) (x : Value) : (w.setCell ⟨B, 0, none⟩ x).heap[B]? = some (.cells #[x] t (0, 0)) := by
  simp [World.setCell, Array.getElem?_modify, h]
theorem OwnM.far {w : World} {B b i : Nat} {a : Option Addr} {c : Nat} {cs : Array Value} {xs : List P} (h : OwnM w B a c xs) (h' : w.heap[b]? = some (.cells cs 24 (0, 0))) (v : Value) : OwnM (w.setCell ⟨b, i, none⟩ v) B a c xs :=
  ⟨h.ms.far (p := ⟨b, i, none⟩) (own_blk h.ms h' (by decide)) v, h.rows.far h' (by decide) v⟩
theorem okM_map {xs : List P} (h : ∀ x ∈ xs, OkM x.1) (i : Nat) (hi : i < xs.length) : OkM (gp xs i).1 := h _ (gp_mem xs i hi)
theorem okM_ys {xs ys : List P} (hf : fst ys = fst xs) (h : ∀ x ∈ xs, OkM x.1) : ∀ y ∈ ys, OkM y.1 := fun y hy => by
  have h1 : y.1 ∈ fst ys := List.mem_map.2 ⟨y, hy, rfl⟩
  rw [hf] at h1
  obtain ⟨x, hx, e⟩ := List.mem_map.1 h1
  rw [← e]
  exact h x hx

set_option maxRecDepth 100000 in
set_option maxHeartbeats 8000000 in
theorem change_any (f : Me → Me × Int) (F : Nat) (caps : Array Value) (a : Option Addr) (c : Nat) (xs : List P) (t : ByteArray) (w : World) (hn : xs.length ≤ 1000) (hZ : ∀ x ∈ xs, OkM x.1) (hA : AtM w a xs)
    (hf : ∀ m, OkM m → val m = true → (f m).2 = 0 → OkM (f m).1) (hE : ∀ (v : Value) (w : World), (callFunc F (#[v] ++ caps)).run Try.prog w = .ok (.enter F (#[v] ++ caps)) w)
    (hDo : ∀ (g cap i : Nat) (ys : List P) (wx : World), i < ys.length → ys.length ≤ 1000 → OkM (gp ys i).1 → val (gp ys i).1 = true → OwnM wx w.heap.size (some ⟨g, 0, none⟩) cap ys → Below w.heap.size w wx → Calls Try.prog F (#[.pointer (some ⟨g, i * 5, none⟩)] ++ caps) wx (DoPost f w.heap.size g cap i ys wx)) :
    Calls Try.prog 45 #[.agg #[.slice a xs.length c], .string t, .func (.func F) #[] caps] w (RPost (chgF (fst xs) t f) w) := by
  have HA := Lib.hid hA
  have HP := Lib.hid (fun wx (h : AtM wx a xs) => place_any a c xs t wx hn hZ h)
  have HCP := Lib.hid (fun wx (h : AtM wx a xs) => copied_any a c xs wx hn (fun x hx => (hZ x hx).len) h)
  have hbo : Below w.heap.size w ((w.alloc (.cells #[.slice a xs.length c] 24)).alloc (.cells #[.slice none 0 0] 24)) := ((Below.refl _ _).alloc (Nat.le_refl _) _).alloc (by simp) _
  have HX := Lib.hid (blk_two w (.cells #[.slice a xs.length c] 24) (.cells #[.slice none 0 0] 24))
  have HZ := Lib.hid hZ
  have HF := Lib.hid hf
  have HE := Lib.hid hE
  have HDO := Lib.hid hDo
  clear hA hZ hf hDo hE
  obtain ⟨r, hr⟩ : ∃ r, r = chgF (fst xs) t f := ⟨_, rfl⟩
  rw [← hr]
  have HR := Lib.hid hr
  clear hr
  by_cases h0 : plE (fst xs) t = 0
  case neg =>
    have HR2 := Lib.hid (show r = ([], plE (fst xs) t) by rw [HR.out]; unfold chgF; rw [if_neg h0])
    generalize plE (fst xs) t = e0 at HP HR2 h0
    generalize plI (fst xs) t = p0 at HP
    have h0' : (e0 != 0) = true := by simpa using h0
    go_enter Try.func45, Try.ntmps45
    go_wp2_with fail
    generalize (w.alloc _).alloc _ = wo at hbo HX ⊢
    refine (HP.out wo (HA.out.below hbo)).mono ?_
    rintro e w1 ⟨rfl, hb1⟩
    have hx1 := blk_keep HX.out.1 hb1
    have hy1 := blk_keep HX.out.2 hb1
    have y0 := cell_of hy1 0 _ rfl
    have yf := frozen_of hy1 0
    have c1 := bt hbo hb1 (Nat.le_refl _)
    have HY1 := Lib.hid hy1
    clear HX hb1 hbo hx1 hy1
    go_wp2_with fail
    have h4 := set1 HY1.out (.slice none 0 0)
    have r0 := cell_of h4 0 _ rfl
    refine bodyPost_ret (v := .tuple #[.agg #[.slice none 0 0], .int .i64 e0]) (by simp [results, Try.results45, go_sem, r0]) rfl ⟨none, 0, [], by rw [HR2.out]; rfl, by rw [HR2.out]; rfl, OwnM.nil _ _, c1.setCell (p := ⟨w.heap.size + 1, 0, none⟩) (Nat.le_succ _) _⟩
  case pos =>
    obtain ⟨p, hp⟩ : ∃ p, p = pos (nms (fst xs)) t := ⟨_, rfl⟩
    have hpI : plI (fst xs) t = (p : Int) := by unfold plI; rw [if_pos h0, hp]
    have hchk : chk (fst xs) = 0 ∧ has (nms (fst xs)) t = true := by
      unfold plE at h0
      split at h0
      · rename_i g
        refine ⟨g, ?_⟩
        cases k : has (nms (fst xs)) t
        · rw [k] at h0; cases h0
        · rfl
      · cases h0
    have hpl : p < xs.length := by
      have := (pos_has _ _ (chk_srt hchk.1).2.1 hchk.2).1
      rw [← hp] at this
      simpa [nms, fst] using this
    obtain ⟨m, hm⟩ : ∃ m, m = (gp xs p).1 := ⟨_, rfl⟩
    have hat : at_ (fst xs) t = m := by unfold at_; rw [← hp, gm_fst, hm]
    have hval : val m = true := (chk_srt hchk.1).2.2 _ (by rw [hm]; exact List.mem_map.2 ⟨_, gp_mem xs p hpl, rfl⟩)
    have hokm : OkM m := by rw [hm]; exact HZ.out _ (gp_mem xs p hpl)
    have HR2 := Lib.hid (show r = (if (f m).2 = 0 then (if val (f m).1 then ((fst xs).set p (f m).1, 0) else ([], 52)) else ([], (f m).2)) by
      rw [HR.out]
      unfold chgF
      rw [if_pos h0, hat, ← hp])
    rw [h0, hpI] at HP
    have HM := Lib.hid hm
    have HV := Lib.hid hval
    have HK := Lib.hid hokm
    clear h0 hpI hchk hm hat hp hval hokm HR
    have hp0 : (0 : Int) ≤ (p : Int) := by omega
    have hp1 : (p : Int) < (xs.length : Int) := by omega
    go_enter Try.func45, Try.ntmps45
    go_wp2_with fail
    generalize (w.alloc _).alloc _ = wo at hbo HX ⊢
    refine (HP.out wo (HA.out.below hbo)).mono ?_
    rintro e w1 ⟨rfl, hb1⟩
    have HX1 := Lib.hid (blk_keep HX.out.1 hb1)
    have HY1 := Lib.hid (blk_keep HX.out.2 hb1)
    have x0 := cell_of HX1.out 0 _ rfl
    have xf := frozen_of HX1.out 0
    have c1 := bt hbo hb1 (Nat.le_refl _)
    clear HX hb1 hbo HP
    go_wp2_with fail
    refine (HCP.out w1 (HA.out.below c1)).mono ?_
    rintro e w2 ⟨a', c', ys, rfl, hys, hO, hb2⟩
    have hyl := len_of_fst hys
    have HX2 := Lib.hid (blk_keep HX1.out hb2)
    have HY2 := Lib.hid (blk_keep HY1.out hb2)
    have hO2 := hO.lower c1.size
    obtain ⟨g, rfl, _⟩ := own_some hO2 (by omega)
    have HX3 := Lib.hid (set1 HX2.out (.slice (some ⟨g, 0, none⟩) xs.length c'))
    have HY3 := Lib.hid (set_other (i := 0) HY2.out (show w.heap.size ≠ w.heap.size + 1 by omega) (.slice (some ⟨g, 0, none⟩) xs.length c'))
    have hO3 := hO2.far (i := 0) HX2.out (.slice (some ⟨g, 0, none⟩) xs.length c')
    have c2 := bt c1 hb2 (Nat.le_refl _)
    have c3 := c2.setCell (p := ⟨w.heap.size, 0, none⟩) (Nat.le_refl _) (.slice (some ⟨g, 0, none⟩) xs.length c')
    have hm2 : (gp ys p).1 = m := by rw [gp_fst_eq hys, HM.out]
    have HD := Lib.hid (HDO.out g c' p ys _ (by omega) (by omega) (by rw [hm2]; exact HK.out) (by rw [hm2]; exact HV.out) hO3 c3)
    have x0' := cell_of HX2.out 0 _ rfl
    have xf' := frozen_of HX2.out 0
    have x1' := cell_of HX3.out 0 _ rfl
    have HYS := Lib.hid hys
    have HM2 := Lib.hid hm2
    have HC3 := Lib.hid c3
    clear x0 xf c1 HX1 HY1 hb2 HX2 HY2 hO hO2 hO3 c2 c3 HDO HCP hm2 hys
    go_wp2_with fail
    rw [HE.out]
    refine HD.out.mono ?_
    rintro e w4 ⟨rfl, hb4, hbx, hok⟩
    rw [HM2.out] at hok ⊢
    have HX4 := Lib.hid (hbx _ _ HX3.out)
    have HY4 := Lib.hid (hbx _ _ HY3.out)
    have c4 := HC3.out.trans hb4
    generalize hfm : f m = fm at hok HR2 ⊢
    have HFM := Lib.hid hfm
    clear hfm
    obtain ⟨m', e1⟩ := fm
    dsimp only at hok HR2 ⊢
    have x4 := cell_of HX4.out 0 _ rfl
    have y4 := cell_of HY4.out 0 _ rfl
    have yf4 := frozen_of HY4.out 0
    clear HX3 HY3 HC3 x0' xf' x1' hb4 hbx HD
    by_cases h1 : e1 = 0
    case neg =>
      have HR3 := Lib.hid (show r = ([], e1) by rw [HR2.out, if_neg h1])
      have h1' : (e1 != 0) = true := by simpa using h1
      go_wp2_with fail
      have h5 := set1 HY4.out (.slice none 0 0)
      have r0 := cell_of h5 0 _ rfl
      refine bodyPost_ret (v := .tuple #[.agg #[.slice none 0 0], .int .i64 e1]) (by simp [results, Try.results45, go_sem, r0]) rfl ⟨none, 0, [], by rw [HR3.out]; rfl, by rw [HR3.out]; rfl, OwnM.nil _ _, c4.setCell (p := ⟨w.heap.size + 1, 0, none⟩) (Nat.le_succ _) _⟩
    case pos =>
      subst h1
      obtain ⟨y, rfl, hO4⟩ := hok rfl
      have hyl4 : (ys.set p y).length = xs.length := by rw [List.length_set]; omega
      have hgy : gp (ys.set p y) p = y := gp_set _ _ _ (by omega)
      have HOY : Hid (OkM y.1) := by
        have := HF.out m HK.out HV.out
        rw [HFM.out] at this
        exact this rfl
      have hA4 := hO4.at
      obtain ⟨q0, q1, q2, q3, q4⟩ := at_p' hA4.ms p (by omega)
      have HVA := Lib.hid (valid_any y w4 HOY.out (by rw [← hgy]; exact hA4.ac _ (gp_mem _ p (by omega))))
      rw [hgy] at q0 q1 q2 q3 q4
      simp only [Nat.zero_add] at q0 q1 q2 q3 q4
      have HR3 := Lib.hid (show r = (if val y.1 then ((fst xs).set p y.1, 0) else ([], 52)) by rw [HR2.out, if_pos rfl])
      generalize val y.1 = vv at HVA HR3
      have HO4 := Lib.hid hO4
      have HYL := Lib.hid hyl4
      have HXL := Lib.hid hyl
      clear hO4 hgy hA4 hyl4 hok HR2 HV HM HM2
      go_wp2_with fail
      refine HVA.out.mono ?_
      rintro e w5 ⟨rfl, hb5⟩
      have HX5 := Lib.hid (blk_keep HX4.out hb5)
      have HY5 := Lib.hid (blk_keep HY4.out hb5)
      have HO5 := Lib.hid (HO4.out.below hb5)
      have c5 := bt c4 hb5 (Nat.le_refl _)
      have x5 := cell_of HX5.out 0 _ rfl
      have y5 := cell_of HY5.out 0 _ rfl
      have yf5 := frozen_of HY5.out 0
      clear x4 y4 yf4 q0 q1 q2 q3 q4 HX4 HY4 HO4 c4 hb5
      cases vv
      · have HR4 := Lib.hid (show r = ([], 52) by rw [HR3.out]; rfl)
        go_wp2_with fail
        have h5 := set1 HY5.out (.slice none 0 0)
        have r0 := cell_of h5 0 _ rfl
        refine bodyPost_ret (v := .tuple #[.agg #[.slice none 0 0], .int .i64 52]) (by simp [results, Try.results45, go_sem, r0]) rfl ⟨none, 0, [], by rw [HR4.out]; rfl, by rw [HR4.out]; rfl, OwnM.nil _ _, c5.setCell (p := ⟨w.heap.size + 1, 0, none⟩) (Nat.le_succ _) _⟩
      · have HR4 := Lib.hid (show r = ((fst xs).set p y.1, 0) by rw [HR3.out]; rfl)
        go_wp2_with fail
        have h5 := set1 HY5.out (.slice (some ⟨g, 0, none⟩) xs.length c')
        have r0 := cell_of h5 0 _ rfl
        refine bodyPost_ret (v := .tuple #[.agg #[.slice (some ⟨g, 0, none⟩) xs.length c'], .int .i64 0]) (by simp [results, Try.results45, go_sem, r0]) rfl ⟨some ⟨g, 0, none⟩, c', ys.set p y, by rw [HR4.out, HYL.out], by rw [HR4.out, fst_set, HYS.out], HO5.out.far (i := 0) HY5.out _, c5.setCell (p := ⟨w.heap.size + 1, 0, none⟩) (Nat.le_succ _) _⟩
end Go.Proofs.Ytoemjpfoddeinaa.Mb
