/-
  Collateral: the walks of all and value: a range over the iterator.
-/
import Derived.Test.YtbfgnkakcnhojaaCo8
import Derived.RangeFuncWrites
import Derived.Shelf.Abstract
namespace Go.Proofs.Ytbfgnkakcnhojaa.Co
open Go.RowKit Go.Shelf Go.Proofs.Ytbfgnkakcnhojaa Go.Proofs.Ytbfgnkakcnhojaa.Ls Go.Proofs.Ytbfgnkakcnhojaa.Kb
open Go.Proofs.Ytbfgnkakcnhojaa.Nm hiding ret_bool ret_int
attribute [local go_sem] Oper.semAt_some

set_option maxRecDepth 100000 in
theorem all_any (aA aI aL : Option Addr) (nA cA nI cI nL cL : Nat) (w : World) :
    Calls Try.prog 35 #[.agg #[.slice aA nA cA, .slice aI nI cI], .slice aL nL cL] w fun e w' => ∃ B0 B1 : Nat, e = .returned (.func (.func 54) #[] #[.pointer (some ⟨B0, 0, none⟩), .pointer (some ⟨B1, 0, none⟩)]) ∧
      w'.heap[B0]? = some (.cells #[.slice aA nA cA, .slice aI nI cI] 25 (0, 0)) ∧ w'.heap[B1]? = some (.cells #[.slice aL nL cL] 26 (0, 0)) ∧ w.heap.size ≤ B0 ∧ w.heap.size ≤ B1 ∧ Below w.heap.size w w' := by
  have hk := blk_two w (.cells #[.slice aA nA cA, .slice aI nI cI] 25) (.cells #[.slice aL nL cL] 26)
  have hb : Below w.heap.size w ((w.alloc (.cells #[.slice aA nA cA, .slice aI nI cI] 25)).alloc (.cells #[.slice aL nL cL] 26)) := ((Below.refl _ _).alloc (Nat.le_refl _) _).alloc (by simp) _
  have HK := Lib.hid hk
  have HB := Lib.hid hb
  clear hk hb
  go_enter Try.func35, Try.ntmps35
  go_wp2
  go_ret
  refine ⟨_, _, rfl, ?_, ?_, ?_, ?_, ?_⟩
  · exact HK.out.1
  · simpa using HK.out.2
  · omega
  · simp
  · simpa using HB.out

/-- the sum as the machine reckons it -/
def wsm (l : List Int) : Int := l.foldl (fun a x => wrap64 (a + x)) 0
theorem wsm_snoc (l : List Int) (x : Int) : wsm (l ++ [x]) = wrap64 (wsm l + x) := by simp [wsm]
theorem sm_nonneg (l : List Int) (h : ∀ x ∈ l, 0 ≤ x) : 0 ≤ sm l := by
  induction l with
  | nil => exact Int.le_refl _
  | cons x l ih =>
    rw [sm_cons]
    have := h x (by simp)
    have := ih fun y hy => h y (by simp [hy])
    omega
theorem wsm_is (l : List Int) (h : ∀ x ∈ l, 0 ≤ x) (hs : sm l ≤ 9223372036854775807) : wsm l = sm l := by
  suffices ∀ k, k ≤ l.length → wsm (l.take k) = sm (l.take k) ∧ sm (l.take k) ≤ 9223372036854775807 by
    have := (this l.length (Nat.le_refl _)).1
    rwa [List.take_length] at this
  intro k
  induction k with
  | zero => exact fun _ => ⟨rfl, by show (0 : Int) ≤ 9223372036854775807; decide⟩
  | succ k ih =>
    intro hk
    obtain ⟨h1, h2⟩ := ih (by omega)
    have e : l.take (k + 1) = l.take k ++ [l[k]] := (List.take_append_getElem (by omega)).symm
    have hx := h l[k] (List.getElem_mem _)
    have h3 : sm (l.take (k + 1)) ≤ sm l := by
      have e2 : sm l = sm (l.take (k + 1)) + sm (l.drop (k + 1)) := by
        conv => lhs; rw [← List.take_append_drop (k + 1) l]
        unfold sm
        rw [List.foldl_append, foldl_add]
      have := sm_nonneg (l.drop (k + 1)) (fun y hy => h y (List.mem_of_mem_drop hy))
      omega
    have h4 := sm_nonneg (l.take k) (fun y hy => h y (List.mem_of_mem_take hy))
    rw [e, sm_snoc] at h3
    rw [e, wsm_snoc, sm_snoc, h1]
    refine ⟨?_, by omega⟩
    unfold wrap64
    omega
theorem gl_nonneg {P : List (As × Int)} (h : ∀ x ∈ P, inR x) {m : ByteArray → Int} (hm : ∀ t, 0 ≤ m t) : ∀ x ∈ gl P m, 0 ≤ x.1 ∧ 0 ≤ x.2 := by
  induction P generalizing m with
  | nil => intro x hx; cases hx
  | cons y P ih =>
    intro x hx
    have hy := h y (by simp)
    rcases List.mem_cons.1 hx with rfl | hx
    · exact ⟨(prod_range hy.1 hy.2.1 hy.2.2).1.1, (cvl_range hy.1 hy.2.1 hy.2.2 (hm _)).1⟩
    · exact ih (fun z hz => h z (by simp [hz])) (fun t => (step_range hy.1 hy.2.1 hy.2.2 hm t).1) x hx
theorem val_bound {A : List As} {I L : List (ByteArray × Int)} (h : Fits A I L) : 0 ≤ val (mkP A L) (moF I) ∧ val (mkP A L) (moF I) ≤ mkt (mkP A L) (moF I) ∧ mkt (mkP A L) (moF I) ≤ 1125899906842624 := by
  have := val_range (mkP_in h) (m := moF I) (fun t => (moF_range h t).1)
  rw [mkP_len] at this
  have := h.lL
  omega
theorem wval {A : List As} {I L : List (ByteArray × Int)} (h : Fits A I L) : wsm ((gl (mkP A L) (moF I)).map Prod.snd) = val (mkP A L) (moF I) ∧ wsm ((gl (mkP A L) (moF I)).map Prod.fst) = mkt (mkP A L) (moF I) := by
  have hb := val_bound h
  have hn := gl_nonneg (mkP_in h) (m := moF I) (fun t => (moF_range h t).1)
  refine ⟨wsm_is _ (fun x hx => ?_) ?_, wsm_is _ (fun x hx => ?_) ?_⟩
  · obtain ⟨y, hy, rfl⟩ := List.mem_map.1 hx
    exact (hn y hy).2
  · show val (mkP A L) (moF I) ≤ _
    omega
  · obtain ⟨y, hy, rfl⟩ := List.mem_map.1 hx
    exact (hn y hy).1
  · show mkt (mkP A L) (moF I) ≤ _
    omega

theorem set1 {w : World} {B : Nat} {a : Value} {t : TypeId} (h : w.heap[B]? = some (.cells #[a] t (0, 0))) (x : Value) : (w.setCell ⟨B, 0, none⟩ x).heap[B]? = some (.cells #[x] t (0, 0)) := by
  simp [World.setCell, Array.getElem?_modify, h]
/-- blocks that hold what they hold -/
def HoldB (os : List (Nat × Obj)) (w W : World) : Prop := (∀ p ∈ os, W.heap[p.1]? = some p.2) ∧ Below w.heap.size w W
theorem holdB_own {os : List (Nat × Obj)} {base : Nat} {w : World} (hos : ∀ p ∈ os, p.1 < base) (hw : w.heap.size ≤ base) {A B : World} {row : Option Nat} (h : HoldB os w A) (hg : A.grownBy B row) (hr : ∀ r, row = some r → base ≤ r ∧ ∃ o : Obj, A.heap[r]? = some o ∧ o.isCells = false) : HoldB os w B := by
  obtain ⟨h1, h4⟩ := h
  refine ⟨fun p hp => ?_, ?_⟩
  · rw [← h1 p hp]
    refine hg.block p.1 (blk_lt (h1 p hp)) (fun e => ?_)
    have := (hr p.1 e.symm).1
    have := hos p hp
    omega
  · exact h4.grown hg h4.size (fun r e => Nat.le_trans hw (hr r e).1)
theorem kpG_b {base : Nat} {bs : List Nat} {w : World} (hbase : base ≤ w.heap.size) (hbs : ∀ b ∈ bs, b < w.heap.size) (W : World) (l : Nat) (o o' : Obj) (hl : w.heap.size ≤ l) (h : W.heap[l]? = some o) (_ : o.isCells = false) (hk : o.isWalk = false) : KpG base bs W (W.putObj l o') := by
  have hbe : Below base W (W.putObj l o') := ⟨rfl, rfl, rfl, by simp [World.putObj], fun i hi => World.putObj_heap_other (by omega)⟩
  refine ⟨⟨hbe.size, fun k o1 hk1 hw1 => ?_⟩, fun b hb => World.putObj_heap_other (by have := hbs b hb; omega), hbe⟩
  by_cases e : k = l
  · subst e
    rw [h] at hk1
    cases hk1
    rw [hk] at hw1
    cases hw1
  · rw [World.putObj_heap_other e, hk1]
theorem kpG_set {base : Nat} {bs : List Nat} {W : World} {b : Nat} (hb : base ≤ b) (hbs : b ∉ bs) (v : Value) : KpG base bs W (W.setCell ⟨b, 0, none⟩ v) :=
  ⟨KeepsWalks.setCell W _ v, fun c hc => Below.heap_setCell W ⟨b, 0, none⟩ v c (fun e => by cases e; exact hbs hc), (Below.refl _ _).setCell hb _⟩

theorem all_stops (aA aI aL : Option Addr) (cA cI cL : Nat) (A : List As) (I L : List (ByteArray × Int)) (B0 B1 N : Nat) (wb w1 : World) (hF : Fits A I L) (hZA : SzA A) (hZI : SzL I) (hN : 1 ≤ N)
    (hA : AtL wb 6 asc aA A) (hI : AtL wb 2 isc aI I) (hL : AtL wb 2 isc aL L) (hbel : Below wb.heap.size wb w1)
    (h0 : w1.heap[B0]? = some (.cells #[.slice aA A.length cA, .slice aI I.length cI] 25 (0, 0))) (h1 : w1.heap[B1]? = some (.cells #[.slice aL L.length cL] 26 (0, 0))) :
    SeqStopsK Fence.wide N Try.prog 54 #[.pointer (some ⟨B0, 0, none⟩), .pointer (some ⟨B1, 0, none⟩)] encG (KpG wb.heap.size [B0, B1])
      (fun ys => ys = gl (mkP A L) (moF I)) (fun pre => pre <+: gl (mkP A L) (moF I)) L.length w1 := fun l J Jx W hW hJ hJx hY hJ0 =>
  all_in aA aI aL cA cI cL A I L B0 B1 l N J Jx wb W hF hZA hZI hN hA hI hL (hbel.trans (hW.mono hbel.size)) (blk_keep h0 hW) (blk_keep h1 hW) hJ hJx hY hJ0

set_option maxRecDepth 100000 in
set_option maxHeartbeats 2000000 in
theorem value_any (aA aI aL : Option Addr) (cA cI cL : Nat) (A : List As) (I L : List (ByteArray × Int)) (w : World) (hF : Fits A I L) (hZA : SzA A) (hZI : SzL I) (hA : AtL w 6 asc aA A) (hI : AtL w 2 isc aI I) (hL : AtL w 2 isc aL L) :
    Calls Try.prog 39 #[.agg #[.slice aA A.length cA, .slice aI I.length cI], .slice aL L.length cL] w fun e w' => e = .returned (.int .i64 (val (mkP A L) (moF I))) ∧ Below w.heap.size w w' := by
  have HV := Lib.hid (wval hF).1
  obtain ⟨V, hV⟩ : ∃ V, V = val (mkP A L) (moF I) := ⟨_, rfl⟩
  rw [← hV] at HV ⊢
  have HA := Lib.hid hA
  have HI := Lib.hid hI
  have HL := Lib.hid hL
  have HF := Lib.hid hF
  clear hA hI hL hF hV
  refine (callsIn_wide (n := 9)).1 ?_
  refine callsIn_of_wp_marks Try.func39 rfl trivial ?_ rfl
  simp only [Try.ntmps39, List.size_toArray, List.length_cons, List.length_nil, Nat.reduceAdd, Nat.reduceSub, Array.replicate_succ, Array.replicate_zero, List.push_toArray, List.append_toArray, List.nil_append, List.cons_append]
  gi_wp2_with fail
  have hk := blk_two w (.cells #[.slice aA A.length cA, .slice aI I.length cI] 25) (.cells #[.int .i64 0] 3)
  have hbo : Below w.heap.size w ((w.alloc (.cells #[.slice aA A.length cA, .slice aI I.length cI] 25)).alloc (.cells #[.int .i64 0] 3)) := ((Below.refl _ _).alloc (Nat.le_refl _) _).alloc (by simp) _
  obtain ⟨b5, hb5⟩ : ∃ b, b = w.heap.size + 1 := ⟨_, rfl⟩
  rw [← hb5] at hk
  generalize (w.alloc _).alloc _ = w5 at hk hbo ⊢
  refine ⟨trivial, callsIn_wide.2 ((all_any aA aI aL _ cA _ cI _ cL w5).mono ?_)⟩
  rintro e w1 ⟨B0, B1, rfl, g0, g1, l0, l1, hb1⟩
  have hw5 := blk_lt hk.2
  have HK := Lib.hid (blk_keep hk.2 hb1)
  have HB := Lib.hid (bt hbo hb1 (Nat.le_refl _))
  have HG := Lib.hid (And.intro g0 g1)
  have hB0 := blk_lt g0
  have hB1 := blk_lt g1
  have hw1 := HB.out.size
  have hbw := blk_lt HK.out
  have HN5 := Lib.hid hb5
  rw [← HN5.out]
  have n0 : b5 ≠ B0 := by omega
  have n1 : b5 ≠ B1 := by omega
  clear hk hbo hb1 g0 g1 hb5
  gi_wp2
  refine wpIn_rangeFunc_ownG (F := Fence.wide) rfl (by omega) (gf := 54) (lb := #[.pointer (some ⟨B0, 0, none⟩), .pointer (some ⟨B1, 0, none⟩)]) rfl trivial (enters_of Try.func54 (by kernel_rfl) rfl)
    (all_stops aA aI aL cA cI cL A I L B0 B1 8 w w1 HF.out hZA hZI (by omega) HA.out HI.out HL.out HB.out HG.out.1 HG.out.2) (fun h k => h.t k) (kpG_b hw1 (fun b hb => by simp only [List.mem_cons, List.not_mem_nil, or_false] at hb; omega)) (Below.refl _ _) (fun _ => rfl)
    (fun pre W => HoldB [(b5, .cells #[.int .i64 (wsm (pre.map Prod.snd))] 3)] w W)
    (fun _ _ _ => False)
    (fun pre A B row h hg hr => holdB_own (by intro p hp; simp only [List.mem_cons, List.not_mem_nil, or_false] at hp; subst hp; exact hbw) hw1 h hg hr)
    (fun c' pre A B row h hg hr => h.elim)
    ⟨by intro p hp; simp only [List.mem_cons, List.not_mem_nil, or_false] at hp; subst hp; exact HK.out, HB.out⟩
    (fun x => { tmps := #[.agg #[.slice aA A.length cA, .slice aI I.length cI], .slice aL L.length cL, .pointer (some ⟨w.heap.size, 0, none⟩), undef, .int .i64 0, .pointer (some ⟨b5, 0, none⟩), undef, .int .i64 x.2,
      .agg #[.slice aA A.length cA, .slice aI I.length cI], .slice aL L.length cL, .func (.func 54) #[] #[.pointer (some ⟨B0, 0, none⟩), .pointer (some ⟨B1, 0, none⟩)], .int .i64 x.1, .int .i64 x.2, undef, undef, undef, undef], defers := [] }) ?assign ?body ?done ?stop
  case assign =>
    intro l x W K' hK'
    dsimp only [encG]
    gi_wp2
    exact hK'
  case body =>
    rintro l pre x W ⟨hos, hB⟩ hlt
    have h5 := hos (b5, _) (List.mem_cons_self ..)
    have y5 := cell_of h5 0 _ rfl
    have f5 := frozen_of h5 0
    have HO := Lib.hid h5
    clear hos h5
    dsimp only at *
    gi_wp2
    have hk := kpG_set (W := W) (base := w.heap.size) (bs := [B0, B1]) (b := b5) (by have := HN5.out; omega) (by simp only [List.mem_cons, List.not_mem_nil, or_false, not_or]; exact ⟨n0, n1⟩)
    refine ⟨(KeepsOthers.setCell _ _ _).from _, hk _, fun p hp => ?_, hB.trans (hk _).2.2⟩
    simp only [List.mem_cons, List.not_mem_nil, or_false] at hp
    subst hp
    rw [List.map_append, List.map_cons, List.map_nil, wsm_snoc]
    exact set1 HO.out _
  case done =>
    rintro D ys W hD rfl ⟨hos, hB⟩ hK'
    have h5 := hos (b5, _) (List.mem_cons_self ..)
    rw [HV.out] at h5
    have y5 := cell_of h5 0 _ rfl
    have hDD : D ≠ b5 := by omega
    have HBB := Lib.hid (hB.trans (show Below w.heap.size W (W.putObj D (.deferred none)) from (kpG_b hw1 (bs := []) (fun b hb => by cases hb) W D _ (.deferred none) (by omega) hK' rfl rfl).2.2))
    have HK' := Lib.hid hK'
    clear hos h5
    gi_wp2
    trace_state
    refine ⟨by simp, .inl ⟨_, _, rfl, run_takeDeferred HK'.out, ?_⟩⟩
    exact ⟨.int .i64 V, by simp [results, Try.results39, go_sem], rfl, HBB.out⟩
  case stop =>
    rintro D c' pre' W hD hSp h hK'
    exact h.elim
end Go.Proofs.Ytbfgnkakcnhojaa.Co
