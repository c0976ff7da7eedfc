/-
  Margin: the walk of margin.Join.
-/
import Derived.Test.YtmljjofpbonplaaMg18
import Derived.Test.YtmljjofpbonplaaMgJ1
namespace Go.Proofs.Ytmljjofpbonplaa.Mg
open Go.RowKit Go.Proofs.Ytmljjofpbonplaa Go.Proofs.Ytmljjofpbonplaa.Nm Go.Proofs.Ytmljjofpbonplaa.Ls

/-- is a list a valid portfolio? -/
def okL (xs : PL) : Bool := pfB (pfl none 0 xs).T (pfl none 0 xs).Q xs.length
theorem getD_at {xs : PL} {i : Nat} (hi : i < xs.length) : xs.getD i (⟨#[]⟩, 0) = xs[i] := by rw [List.getD_eq_getElem?_getD, List.getElem?_eq_getElem hi]; rfl
theorem srt_of {xs : PL} (h : ∀ i, i + 1 < xs.length → lt (xs.getD i (⟨#[]⟩, 0)).1 (xs.getD (i + 1) (⟨#[]⟩, 0)).1 = true) : Srt xs := by
  induction xs with
  | nil => trivial
  | cons x xs ih =>
    have hs : Srt xs := ih (fun i hi => by have := h (i + 1) (by simp; omega); simpa using this)
    refine ⟨fun y hy => ?_, hs⟩
    cases xs with
    | nil => cases hy
    | cons z zs =>
      have h0 : lt x.1 z.1 = true := by have := h 0 (by simp); simpa using this
      rcases List.mem_cons.1 hy with rfl | hy
      · exact h0
      · exact lt_trans h0 (hs.1 y hy)
theorem of_srt {xs : PL} (h : Srt xs) : ∀ i, i + 1 < xs.length → lt (xs.getD i (⟨#[]⟩, 0)).1 (xs.getD (i + 1) (⟨#[]⟩, 0)).1 = true := by
  induction xs with
  | nil => intro i hi; simp at hi
  | cons x xs ih =>
    intro i hi
    cases i with
    | zero =>
      cases xs with
      | nil => simp at hi
      | cons z zs => simpa using h.1 z List.mem_cons_self
    | succ i => have := ih h.2 i (by simp at hi; omega); simpa using this
/-- what a valid portfolio is -/
structure PLgood (xs : PL) : Prop where
  n : xs.length ≤ 32
  srt : Srt xs
  each : ∀ z ∈ xs, nm z.1 = true ∧ z.2 ≠ 0 ∧ inQ z.2 = true
theorem okL_iff (xs : PL) : okL xs = true ↔ PLgood xs := by
  constructor
  · intro h
    have k := pfB_ok h
    refine ⟨k.n32, srt_of fun i hi => ?_, fun z hz => ?_⟩
    · have := k.sorted (i + 1) (by omega) hi
      exact this
    · obtain ⟨i, hi, rfl⟩ := List.mem_iff_getElem.1 hz
      have h1 := k.name i hi
      have h2 := k.nz i hi
      have h3 := k.q i hi
      rw [show (pfl none 0 xs).T i = xs[i].1 from congrArg Prod.fst (getD_at hi)] at h1
      rw [show (pfl none 0 xs).Q i = xs[i].2 from congrArg Prod.snd (getD_at hi)] at h2 h3
      exact ⟨h1, h2, decide_eq_true h3⟩
  · intro h
    refine pfB_of ⟨h.n, fun i hi => ?_, fun i h0 hi => ?_, fun i hi => ?_, fun i hi => ?_⟩
    · rw [show (pfl none 0 xs).T i = xs[i].1 from congrArg Prod.fst (getD_at hi)]
      exact (h.each _ (List.getElem_mem hi)).1
    · have := of_srt h.srt (i - 1) (by omega)
      rw [show i - 1 + 1 = i by omega] at this
      exact this
    · rw [show (pfl none 0 xs).Q i = xs[i].2 from congrArg Prod.snd (getD_at hi)]
      exact (h.each _ (List.getElem_mem hi)).2.1
    · rw [show (pfl none 0 xs).Q i = xs[i].2 from congrArg Prod.snd (getD_at hi)]
      exact of_decide_eq_true (h.each _ (List.getElem_mem hi)).2.2
theorem portfolio_L (a : Option Addr) (c : Nat) (xs : PL) (w : World) (hp : PLok xs) (hA : AtL w 2 pc a xs) (b : Bool) (hb : okL xs = b) :
    Calls Try.prog 49 #[.slice a xs.length c] w fun e w' => e = .returned (.int .i64 (errV b)) ∧ Below w.heap.size w w' := by
  subst hb
  have hL := pfl_at (c := c) hp hA
  exact portfolio_any a xs.length c (pfl none 0 xs).T (pfl none 0 xs).Q w (by have := hp.n; unfold maxLen at this; omega) hL.t hL.at'

/-- the error of a join, and the join -/
def joinE (xs ys : PL) : Int := if (okL xs && okL ys) = true then if ((mg xs ys).all fun z => inQ z.2) = true then if (jn xs ys).length ≤ 32 then 0 else 4 else 52 else 8
def joinL (xs ys : PL) : PL := if joinE xs ys = 0 then jn xs ys else []
def JoinPost (xs ys : PL) (w : World) : Ending → World → Prop := fun e w' => ∃ v, e = .returned (.tuple #[v, .int .i64 (joinE xs ys)]) ∧ OwnL w' w.heap.size 51 2 pc v (joinL xs ys) ∧ Below w.heap.size w w'
def lenV : Value → Nat
  | .slice _ n _ => n
  | _ => 0
theorem drop_at {w : World} {b off : Nat} {x : ByteArray × Int} {xs : PL} (h : AtL w 2 pc (some ⟨b, off, none⟩) (x :: xs)) : AtL w 2 pc (some ⟨b, off + 2, none⟩) xs := by
  have := h.cut (n := 1) (by simp)
  simpa using this

theorem cut_if {w : World} {b off c : Nat} {x : ByteArray × Int} {xs : PL} (h : AtL w 2 pc (some ⟨b, off, none⟩) (x :: xs)) (hc : xs.length + 1 ≤ c) : AtL w 2 pc (if c = 1 then some ⟨b, off, none⟩ else some ⟨b, off + 2, none⟩) xs := by
  by_cases h1 : c = 1
  · have : xs = [] := List.length_eq_zero_iff.1 (by omega)
    subst this
    exact AtL.nil _ _ _ _
  · rw [if_neg h1]
    exact drop_at h
theorem box_set {wr wq : World} {T : TypeId} {s0 : ByteArray} {q0 : Int} (h : wq.heap[wr.heap.size]? = some (.cells #[.string s0, .int .i64 q0] T (0, 0))) (hb : Below wr.heap.size wr wq) (s : ByteArray) (q : Int) :
    (((wq.setCell ⟨wr.heap.size, 0, none⟩ (.string s)).setCell ⟨wr.heap.size, 1, none⟩ (.int .i64 q)).drew).heap[wr.heap.size]? = some (.cells #[.string s, .int .i64 q] T (0, 0)) ∧
      Below wr.heap.size wr ((wq.setCell ⟨wr.heap.size, 0, none⟩ (.string s)).setCell ⟨wr.heap.size, 1, none⟩ (.int .i64 q)).drew := by
  refine ⟨?_, ((hb.setCell (by simp) _).setCell (by simp) _).drew⟩
  show ((wq.setCell _ _).setCell _ _).heap[wr.heap.size]? = _
  simp [World.setCell, Array.getElem?_modify, h]
theorem filter_nz (dn : PL) (z : ByteArray × Int) (h : (z.2 != 0) = true) : (dn ++ [z]).filter (fun z => z.2 != 0) = dn.filter (fun z => z.2 != 0) ++ [z] := by
  rw [List.filter_append]
  simp [h]
theorem filter_z (dn : PL) (z : ByteArray × Int) (h : (z.2 != 0) = false) : (dn ++ [z]).filter (fun z => z.2 != 0) = dn.filter (fun z => z.2 != 0) := by
  rw [List.filter_append]
  simp [h]
theorem all_mem {dn : PL} (h : ∀ z ∈ dn, inQ z.2 = true) {s : ByteArray} {q : Int} (k : inQ q = true) : ∀ z ∈ dn ++ [(s, q)], inQ z.2 = true := fun z hz => by
  rcases List.mem_append.1 hz with hz | hz
  · exact h z hz
  · rw [List.mem_singleton.1 hz]
    exact k
theorem own_grown {w0 w w' : World} {B : Nat} {T : TypeId} {v : Value} {xs : PL} (h : OwnL w B T 2 pc v xs) (hb : Below B w0 w) (hB : B ≤ w0.heap.size) (hg : w.grownBy w' v.ownBlock) : Below B w0 w' :=
  hb.grown hg (by have := hb.size; omega) (fun k hk => (h.lt k hk).1)
/-- behind an append to a slice of the call's own, what lies below is as it was -/
theorem grown_below {w w' : World} {B : Nat} {T : TypeId} {v : Value} {xs : PL} (h : OwnL w B T 2 pc v xs) (hg : w.grownBy w' v.ownBlock) (hB : B ≤ w.heap.size) : Below B w w' :=
  (Below.refl B w).grown hg hB (fun k hk => (h.lt k hk).1)

set_option maxRecDepth 100000 in
set_option maxHeartbeats 8000000 in
theorem join_any (a b : Option Addr) (c d : Nat) (xs ys : PL) (w : World) (hxc : xs.length ≤ c) (hyd : ys.length ≤ d) (hx : PLok xs) (hy : PLok ys) (hA : AtL w 2 pc a xs) (hB : AtL w 2 pc b ys) :
    Calls Try.prog 31 #[.slice a xs.length c, .slice b ys.length d] w (JoinPost xs ys w) := by
  have HP1 := Lib.hid (fun wo v h => portfolio_L a c xs wo hx (hA.below h) v)
  have HP2 := Lib.hid (fun wo v h => portfolio_L b d ys wo hy (hB.below h) v)
  rcases hb (okL xs) with h1 | h1
  · rcases hb (okL ys) with h2 | h2
    · have HK1 := Lib.hid h1
      have HK2 := Lib.hid h2
      have HG1 := Lib.hid ((okL_iff xs).1 h1)
      have HG2 := Lib.hid ((okL_iff ys).1 h2)
      have HAX := Lib.hid hA
      have HAY := Lib.hid hB
      have hn1 := ((okL_iff xs).1 h1).n
      have hn2 := ((okL_iff ys).1 h2).n
      have HE := Lib.hid (show joinE xs ys = if ((mg xs ys).all fun z => inQ z.2) = true then if (jn xs ys).length ≤ 32 then 0 else 4 else 52 by unfold joinE; rw [h1, h2]; rfl)
      clear h1 h2 hA hB hx hy
      go_enter Try.func31, Try.ntmps31
      go_wp2_with fail
      refine (HP1.out w true (Below.refl _ _) HK1.out).mono ?_
      rintro e w1 ⟨rfl, hb1⟩
      have hev : errV true = 0 := rfl
      rw [hev]
      go_wp2_with fail
      refine (HP2.out w1 true hb1 HK2.out).mono ?_
      rintro e w2 ⟨rfl, hb2⟩
      rw [hev]
      clear hev
      have c2 := bt hb1 hb2 (Nat.le_refl _)
      clear hb1 hb2
      go_wp2_with fail
      go_loopw [0, 1, 6, 7] (fun u v o _ wr => ∃ (a' b' : Option Addr) (c' d' : Nat) (xs' ys' dn : PL), u = .slice a' xs'.length c' ∧ v = .slice b' ys'.length d' ∧ xs'.length ≤ c' ∧ ys'.length ≤ d' ∧ Hid (AtL w 2 pc a' xs') ∧ Hid (AtL w 2 pc b' ys') ∧
        Hid (mg xs ys = dn ++ mg xs' ys') ∧ Hid (∀ z ∈ dn, inQ z.2 = true) ∧ Hid (∀ z ∈ xs', z ∈ xs) ∧ Hid (∀ z ∈ ys', z ∈ ys) ∧ Hid (OwnL wr w.heap.size 51 2 pc o (dn.filter fun z => z.2 != 0)) ∧ Below w.heap.size w wr)
        (fun u v _ _ _ => lenV u + lenV v)
      case atStart => exact ⟨a, b, c, d, xs, ys, [], rfl, rfl, hxc, hyd, HAX, HAY, rfl, Lib.hid (fun z hz => by cases hz), Lib.hid (fun z hz => hz), Lib.hid (fun z hz => hz), OwnL.nil _ _ _ _ _, c2⟩
      case round =>
        clear c2
        obtain ⟨a', b', c', d', xs', ys', dn, rfl, rfl, hxc', hyd', HAx, HAy, HM, HD, HIX, HIY, HO, hbw⟩ := hrel
        cases xs' with
        | nil =>
          cases ys' with
          | nil =>
            have HM2 : Hid (mg xs ys = dn) := by unfold Hid; rw [HM.out, mg_nil, List.append_nil]
            obtain ⟨ao, co, rfl, _, hco, _⟩ := HO.out.read pc_len
            have HJ : Hid (joinE xs ys = if (dn.filter fun z => z.2 != 0).length ≤ 32 then 0 else 4) := by
              unfold Hid
              rw [HE.out, show ((mg xs ys).all fun z => inQ z.2) = true from List.all_eq_true.2 (fun z hz => HD.out z (by rwa [HM2.out] at hz)), if_pos rfl]
              unfold jn
              rw [HM2.out]
            have HJL : Hid (jn xs ys = dn.filter fun z => z.2 != 0) := by unfold Hid jn; rw [HM2.out]
            clear hco
            have hlen : (dn.filter fun z => z.2 != 0).length ≤ 64 := by
              have h1 := List.length_filter_le (fun z : ByteArray × Int => z.2 != 0) dn
              have h2 := congrArg List.length HM2.out
              have h3 := mg_len xs ys
              omega
            by_cases h32 : (dn.filter fun z => z.2 != 0).length ≤ 32
            · have HE2 : Hid (joinE xs ys = 0) := by unfold Hid; rw [HJ.out, if_pos h32]
              generalize hfl : (dn.filter fun z => z.2 != 0).length = FL at *
              have HFL := Lib.hid hfl
              clear hfl
              go_wp2
              go_ret2
              exact ⟨_, by rw [HE2.out]; rfl, by unfold joinL; rw [HE2.out, if_pos rfl, HJL.out]; have := HO.out; rw [← HFL.out] at this ⊢; exact this, hbw⟩
            · have HE2 : Hid (joinE xs ys = 4) := by unfold Hid; rw [HJ.out, if_neg h32]
              generalize hfl : (dn.filter fun z => z.2 != 0).length = FL at *
              clear hfl
              go_wp2
              go_ret2
              exact ⟨_, by rw [HE2.out]; rfl, by unfold joinL; rw [HE2.out]; exact OwnL.nil _ _ _ _ _, hbw⟩
          | cons y yt =>
            simp only [List.length_cons, List.length_nil] at *
            obtain ⟨By, oy, rfl, hcy⟩ := (HAy.out.below hbw) 0 y rfl
            have q0y : wr.cell? ⟨By, oy, none⟩ = some (.string y.1) := by simpa using hcy 0 _ rfl
            have q1y : wr.cell? ⟨By, oy + 1, none⟩ = some (.int .i64 y.2) := by simpa using hcy 1 _ rfl
            clear hcy
            have hby : By < wr.heap.size := World.block_lt_of_cell? _ _ q0y
            have hzy : ((yt.length : Int) + 1 == 0) = false := by rw [beq_eq_false_iff_ne]; omega
            have HM2 : Hid (mg xs ys = (dn ++ [(y.1, y.2)]) ++ mg [] yt) := by
              unfold Hid; rw [HM.out, mg_nil', mg_nil', List.append_assoc]; rfl
            have HLEN : Hid ((dn.filter fun z => z.2 != 0).length ≤ 64) := by
              have h1 := List.length_filter_le (fun z : ByteArray × Int => z.2 != 0) dn
              have h2 := congrArg List.length HM.out
              rw [List.length_append] at h2
              have h3 := mg_len xs ys
              exact (show _ ≤ _ by omega)
            have tv := HG2.out.each y (HIY.out y List.mem_cons_self)
            have HQ := Lib.hid (show decide (-1048576 ≤ y.2 ∧ y.2 ≤ 1048576) = true from tv.2.2)
            have HD2 := Lib.hid (all_mem HD.out (show inQ y.2 = true from tv.2.2) (s := y.1))
            have tq : (y.2 != 0) = true := by rw [bne_iff_ne]; exact tv.2.1
            clear tv
            have R0y := Lib.hid (keep q0y ((Below.refl _ _).alloc (Nat.le_refl _) (.cells #[.string ⟨#[]⟩, .int .i64 0] 51)))
            have R1y := Lib.hid (keep q1y ((Below.refl _ _).alloc (Nat.le_refl _) (.cells #[.string ⟨#[]⟩, .int .i64 0] 51)))
            go_wp2_with fail
            go_quiet (fail)
            go_wp2_with fail
            go_quiet (fail)
            generalize hwq : World.drewN _ _ = wq
            have G1 : wq.heap[wr.heap.size]? = some (.cells #[.string ⟨#[]⟩, .int .i64 0] 51 (0, 0)) := by rw [← hwq]; exact blk_new wr _
            have G2 : Below wr.heap.size wr wq := by rw [← hwq]; first | exact below_drewN ((Below.refl _ _).alloc (Nat.le_refl _) _) _ | exact below_drewN (below_drewN ((Below.refl _ _).alloc (Nat.le_refl _) _) _) _
            have G0 : wr.heap.size < wq.heap.size := by rw [← hwq]; show wr.heap.size < (wr.alloc _).heap.size; simp
            have r0y : wq.cell? ⟨By, oy, none⟩ = some (.string y.1) := by rw [← hwq]; exact R0y.out
            have r1y : wq.cell? ⟨By, oy + 1, none⟩ = some (.int .i64 y.2) := by rw [← hwq]; exact R1y.out
            clear q0y q1y R0y R1y
            have p0 : wq.cell? ⟨wr.heap.size, 0, none⟩ = some (.string ⟨#[]⟩) := cell_of G1 0 _ rfl
            have p1 : wq.cell? ⟨wr.heap.size, 1, none⟩ = some (.int .i64 0) := cell_of G1 1 _ rfl
            have f0 := frozen_of G1 0
            have f1 := frozen_of G1 1
            have HG := Lib.hid (And.intro G1 (And.intro G2 G0))
            clear hwq G1 G2 G0
            go_wp2_with fail
            go_region
            generalize hwn : World.drew _ = wn
            have HN : Hid (wn.heap[wr.heap.size]? = some (.cells #[.string y.1, .int .i64 y.2] 51 (0, 0)) ∧ Below wr.heap.size wr wn) := by
              rw [← hwn]
              exact box_set HG.out.1 HG.out.2.1 y.1 y.2
            clear hwn HG p0 p1 f0 f1
            generalize hA2 : (if d' = 1 then some (⟨By, oy, none⟩ : Addr) else some ⟨By, oy + 2, none⟩) = A2y
            have HA2y : Hid (AtL w 2 pc A2y yt) := by rw [← hA2]; exact cut_if HAy.out hyd'
            clear hA2
            clear r0y r1y
            have p0 : wn.cell? ⟨wr.heap.size, 0, none⟩ = some (.string y.1) := cell_of HN.out.1 0 _ rfl
            have p1 : wn.cell? ⟨wr.heap.size, 1, none⟩ = some (.int .i64 y.2) := cell_of HN.out.1 1 _ rfl
            have HC := Lib.hid (bt hbw HN.out.2 (Nat.le_refl _))
            have HOW := Lib.hid (HO.out.below HN.out.2)
            have HNZ := Lib.hid tq
            go_wp2_with fail
            refine (within_any _ 1048576 _ (by omega) (by omega)).mono ?_
            rintro e w' ⟨rfl, rfl⟩
            rw [HQ.out]
            go_wp2_with (at_builtin; refine wpList_append_L (P := Try.prog) (α := ByteArray × Int) rfl _ _ _ rfl 51 (.agg #[.string ⟨#[]⟩, .int .i64 0]) 2 24 Try.underlying26 (by kernel_rfl) rfl (by decide) w.heap.size pc u6 (dn.filter fun z => z.2 != 0) (y.1, y.2) wn.heap.size #[.string y.1, .int .i64 y.2] rfl rfl (HOW.out.below ((Below.refl _ _).alloc (Nat.le_refl _) _)) (blk_new wn _) rfl rfl (by simp [pc, Value.oneCell']) (by have := HLEN.out; unfold maxLen; omega) (by have := HLEN.out; omega) (by have := HC.out.size; simp; omega) ?_; intro g1 cap w9 hown9 hgrow9 hat9)
            have HC9 := Lib.hid ((HC.out.alloc HC.out.size _).grown hgrow9 (by have := HC.out.size; simp; omega) (fun k hk => (HOW.out.lt k hk).1))
            have HO9 : Hid (OwnL w9 w.heap.size 51 2 pc (.slice (some ⟨g1, 0, none⟩) ((dn.filter fun z => z.2 != 0).length + 1) cap) ((dn ++ [(y.1, y.2)]).filter fun z => z.2 != 0)) := by
              unfold Hid
              rw [filter_nz dn (y.1, y.2) HNZ.out]
              exact hown9
            clear hown9 hgrow9 hat9 HOW HO HC
            go_wp2
            go_roundw
            case rel => exact ⟨a', A2y, c', d' - 1, [], yt, dn ++ [(y.1, y.2)], rfl, rfl, hxc', by omega, HAx, HA2y, HM2, HD2, HIX, Lib.hid (fun z hz => HIY.out z (List.mem_cons_of_mem _ hz)), HO9, HC9.out⟩
            case measure => simp [lenV] <;> omega
        | cons x xt =>
          cases ys' with
          | nil =>
            simp only [List.length_cons, List.length_nil] at *
            obtain ⟨Bx, ox, rfl, hcx⟩ := (HAx.out.below hbw) 0 x rfl
            have q0x : wr.cell? ⟨Bx, ox, none⟩ = some (.string x.1) := by simpa using hcx 0 _ rfl
            have q1x : wr.cell? ⟨Bx, ox + 1, none⟩ = some (.int .i64 x.2) := by simpa using hcx 1 _ rfl
            clear hcx
            have hbx : Bx < wr.heap.size := World.block_lt_of_cell? _ _ q0x
            have hzx : ((xt.length : Int) + 1 == 0) = false := by rw [beq_eq_false_iff_ne]; omega
            have HM2 : Hid (mg xs ys = (dn ++ [(x.1, x.2)]) ++ mg xt []) := by
              unfold Hid; rw [HM.out, mg_nil, mg_nil, List.append_assoc]; rfl
            have HLEN : Hid ((dn.filter fun z => z.2 != 0).length ≤ 64) := by
              have h1 := List.length_filter_le (fun z : ByteArray × Int => z.2 != 0) dn
              have h2 := congrArg List.length HM.out
              rw [List.length_append] at h2
              have h3 := mg_len xs ys
              exact (show _ ≤ _ by omega)
            have tv := HG1.out.each x (HIX.out x List.mem_cons_self)
            have HQ := Lib.hid (show decide (-1048576 ≤ x.2 ∧ x.2 ≤ 1048576) = true from tv.2.2)
            have HD2 := Lib.hid (all_mem HD.out (show inQ x.2 = true from tv.2.2) (s := x.1))
            have tq : (x.2 != 0) = true := by rw [bne_iff_ne]; exact tv.2.1
            clear tv
            have R0x := Lib.hid (keep q0x ((Below.refl _ _).alloc (Nat.le_refl _) (.cells #[.string ⟨#[]⟩, .int .i64 0] 51)))
            have R1x := Lib.hid (keep q1x ((Below.refl _ _).alloc (Nat.le_refl _) (.cells #[.string ⟨#[]⟩, .int .i64 0] 51)))
            go_wp2_with fail
            go_quiet (fail)
            generalize hwq : World.drewN _ _ = wq
            have G1 : wq.heap[wr.heap.size]? = some (.cells #[.string ⟨#[]⟩, .int .i64 0] 51 (0, 0)) := by rw [← hwq]; exact blk_new wr _
            have G2 : Below wr.heap.size wr wq := by rw [← hwq]; first | exact below_drewN ((Below.refl _ _).alloc (Nat.le_refl _) _) _ | exact below_drewN (below_drewN ((Below.refl _ _).alloc (Nat.le_refl _) _) _) _
            have G0 : wr.heap.size < wq.heap.size := by rw [← hwq]; show wr.heap.size < (wr.alloc _).heap.size; simp
            have r0x : wq.cell? ⟨Bx, ox, none⟩ = some (.string x.1) := by rw [← hwq]; exact R0x.out
            have r1x : wq.cell? ⟨Bx, ox + 1, none⟩ = some (.int .i64 x.2) := by rw [← hwq]; exact R1x.out
            clear q0x q1x R0x R1x
            have p0 : wq.cell? ⟨wr.heap.size, 0, none⟩ = some (.string ⟨#[]⟩) := cell_of G1 0 _ rfl
            have p1 : wq.cell? ⟨wr.heap.size, 1, none⟩ = some (.int .i64 0) := cell_of G1 1 _ rfl
            have f0 := frozen_of G1 0
            have f1 := frozen_of G1 1
            have HG := Lib.hid (And.intro G1 (And.intro G2 G0))
            clear hwq G1 G2 G0
            go_wp2_with fail
            go_region
            generalize hwn : World.drew _ = wn
            have HN : Hid (wn.heap[wr.heap.size]? = some (.cells #[.string x.1, .int .i64 x.2] 51 (0, 0)) ∧ Below wr.heap.size wr wn) := by
              rw [← hwn]
              exact box_set HG.out.1 HG.out.2.1 x.1 x.2
            clear hwn HG p0 p1 f0 f1
            generalize hA2 : (if c' = 1 then some (⟨Bx, ox, none⟩ : Addr) else some ⟨Bx, ox + 2, none⟩) = A2x
            have HA2x : Hid (AtL w 2 pc A2x xt) := by rw [← hA2]; exact cut_if HAx.out hxc'
            clear hA2
            clear r0x r1x
            have p0 : wn.cell? ⟨wr.heap.size, 0, none⟩ = some (.string x.1) := cell_of HN.out.1 0 _ rfl
            have p1 : wn.cell? ⟨wr.heap.size, 1, none⟩ = some (.int .i64 x.2) := cell_of HN.out.1 1 _ rfl
            have HC := Lib.hid (bt hbw HN.out.2 (Nat.le_refl _))
            have HOW := Lib.hid (HO.out.below HN.out.2)
            have HNZ := Lib.hid tq
            go_wp2_with fail
            refine (within_any _ 1048576 _ (by omega) (by omega)).mono ?_
            rintro e w' ⟨rfl, rfl⟩
            rw [HQ.out]
            go_wp2_with (at_builtin; refine wpList_append_L (P := Try.prog) (α := ByteArray × Int) rfl _ _ _ rfl 51 (.agg #[.string ⟨#[]⟩, .int .i64 0]) 2 24 Try.underlying26 (by kernel_rfl) rfl (by decide) w.heap.size pc u6 (dn.filter fun z => z.2 != 0) (x.1, x.2) wn.heap.size #[.string x.1, .int .i64 x.2] rfl rfl (HOW.out.below ((Below.refl _ _).alloc (Nat.le_refl _) _)) (blk_new wn _) rfl rfl (by simp [pc, Value.oneCell']) (by have := HLEN.out; unfold maxLen; omega) (by have := HLEN.out; omega) (by have := HC.out.size; simp; omega) ?_; intro g1 cap w9 hown9 hgrow9 hat9)
            have HC9 := Lib.hid ((HC.out.alloc HC.out.size _).grown hgrow9 (by have := HC.out.size; simp; omega) (fun k hk => (HOW.out.lt k hk).1))
            have HO9 : Hid (OwnL w9 w.heap.size 51 2 pc (.slice (some ⟨g1, 0, none⟩) ((dn.filter fun z => z.2 != 0).length + 1) cap) ((dn ++ [(x.1, x.2)]).filter fun z => z.2 != 0)) := by
              unfold Hid
              rw [filter_nz dn (x.1, x.2) HNZ.out]
              exact hown9
            clear hown9 hgrow9 hat9 HOW HO HC
            go_wp2
            go_roundw
            case rel => exact ⟨A2x, b', c' - 1, d', xt, [], dn ++ [(x.1, x.2)], rfl, rfl, by omega, hyd', HA2x, HAy, HM2, HD2, Lib.hid (fun z hz => HIX.out z (List.mem_cons_of_mem _ hz)), HIY, HO9, HC9.out⟩
            case measure => simp [lenV] <;> omega
          | cons y yt =>
            simp only [List.length_cons] at *
            obtain ⟨Bx, ox, rfl, hcx⟩ := (HAx.out.below hbw) 0 x rfl
            have q0x : wr.cell? ⟨Bx, ox, none⟩ = some (.string x.1) := by simpa using hcx 0 _ rfl
            have q1x : wr.cell? ⟨Bx, ox + 1, none⟩ = some (.int .i64 x.2) := by simpa using hcx 1 _ rfl
            clear hcx
            have hbx : Bx < wr.heap.size := World.block_lt_of_cell? _ _ q0x
            have hzx : ((xt.length : Int) + 1 == 0) = false := by rw [beq_eq_false_iff_ne]; omega
            obtain ⟨By, oy, rfl, hcy⟩ := (HAy.out.below hbw) 0 y rfl
            have q0y : wr.cell? ⟨By, oy, none⟩ = some (.string y.1) := by simpa using hcy 0 _ rfl
            have q1y : wr.cell? ⟨By, oy + 1, none⟩ = some (.int .i64 y.2) := by simpa using hcy 1 _ rfl
            clear hcy
            have hby : By < wr.heap.size := World.block_lt_of_cell? _ _ q0y
            have hzy : ((yt.length : Int) + 1 == 0) = false := by rw [beq_eq_false_iff_ne]; omega
            rcases three x.1 y.1 with hlt | hlt | hlt
            ·
              have HM2 : Hid (mg xs ys = (dn ++ [(x.1, x.2)]) ++ mg xt (y :: yt)) := by
                unfold Hid; rw [HM.out, mg_lt _ _ _ _ hlt, List.append_assoc]; rfl
              have HLEN : Hid ((dn.filter fun z => z.2 != 0).length ≤ 64) := by
                have h1 := List.length_filter_le (fun z : ByteArray × Int => z.2 != 0) dn
                have h2 := congrArg List.length HM.out
                rw [List.length_append] at h2
                have h3 := mg_len xs ys
                exact (show _ ≤ _ by omega)
              have tv := HG1.out.each x (HIX.out x List.mem_cons_self)
              have HQ := Lib.hid (show decide (-1048576 ≤ x.2 ∧ x.2 ≤ 1048576) = true from tv.2.2)
              have HD2 := Lib.hid (all_mem HD.out (show inQ x.2 = true from tv.2.2) (s := x.1))
              have tq : (x.2 != 0) = true := by rw [bne_iff_ne]; exact tv.2.1
              clear tv
              have R0x := Lib.hid (keep q0x ((Below.refl _ _).alloc (Nat.le_refl _) (.cells #[.string ⟨#[]⟩, .int .i64 0] 51)))
              have R1x := Lib.hid (keep q1x ((Below.refl _ _).alloc (Nat.le_refl _) (.cells #[.string ⟨#[]⟩, .int .i64 0] 51)))
              have R0y := Lib.hid (keep q0y ((Below.refl _ _).alloc (Nat.le_refl _) (.cells #[.string ⟨#[]⟩, .int .i64 0] 51)))
              have R1y := Lib.hid (keep q1y ((Below.refl _ _).alloc (Nat.le_refl _) (.cells #[.string ⟨#[]⟩, .int .i64 0] 51)))
              have t1 : Op.bytesLess x.1.toList y.1.toList = true := hlt
              go_wp2_with fail
              go_quiet (fail)
              generalize hwq : World.drewN _ _ = wq
              have G1 : wq.heap[wr.heap.size]? = some (.cells #[.string ⟨#[]⟩, .int .i64 0] 51 (0, 0)) := by rw [← hwq]; exact blk_new wr _
              have G2 : Below wr.heap.size wr wq := by rw [← hwq]; first | exact below_drewN ((Below.refl _ _).alloc (Nat.le_refl _) _) _ | exact below_drewN (below_drewN ((Below.refl _ _).alloc (Nat.le_refl _) _) _) _
              have G0 : wr.heap.size < wq.heap.size := by rw [← hwq]; show wr.heap.size < (wr.alloc _).heap.size; simp
              have r0x : wq.cell? ⟨Bx, ox, none⟩ = some (.string x.1) := by rw [← hwq]; exact R0x.out
              have r1x : wq.cell? ⟨Bx, ox + 1, none⟩ = some (.int .i64 x.2) := by rw [← hwq]; exact R1x.out
              have r0y : wq.cell? ⟨By, oy, none⟩ = some (.string y.1) := by rw [← hwq]; exact R0y.out
              have r1y : wq.cell? ⟨By, oy + 1, none⟩ = some (.int .i64 y.2) := by rw [← hwq]; exact R1y.out
              clear q0x q1x R0x R1x
              clear q0y q1y R0y R1y
              have p0 : wq.cell? ⟨wr.heap.size, 0, none⟩ = some (.string ⟨#[]⟩) := cell_of G1 0 _ rfl
              have p1 : wq.cell? ⟨wr.heap.size, 1, none⟩ = some (.int .i64 0) := cell_of G1 1 _ rfl
              have f0 := frozen_of G1 0
              have f1 := frozen_of G1 1
              have HG := Lib.hid (And.intro G1 (And.intro G2 G0))
              clear hwq G1 G2 G0
              go_wp2_with fail
              go_region
              generalize hwn : World.drew _ = wn
              have HN : Hid (wn.heap[wr.heap.size]? = some (.cells #[.string x.1, .int .i64 x.2] 51 (0, 0)) ∧ Below wr.heap.size wr wn) := by
                rw [← hwn]
                exact box_set HG.out.1 HG.out.2.1 x.1 x.2
              clear hwn HG p0 p1 f0 f1
              generalize hA2 : (if c' = 1 then some (⟨Bx, ox, none⟩ : Addr) else some ⟨Bx, ox + 2, none⟩) = A2x
              have HA2x : Hid (AtL w 2 pc A2x xt) := by rw [← hA2]; exact cut_if HAx.out hxc'
              clear hA2
              clear r0x r1x r0y r1y t1 hlt
              have p0 : wn.cell? ⟨wr.heap.size, 0, none⟩ = some (.string x.1) := cell_of HN.out.1 0 _ rfl
              have p1 : wn.cell? ⟨wr.heap.size, 1, none⟩ = some (.int .i64 x.2) := cell_of HN.out.1 1 _ rfl
              have HC := Lib.hid (bt hbw HN.out.2 (Nat.le_refl _))
              have HOW := Lib.hid (HO.out.below HN.out.2)
              have HNZ := Lib.hid tq
              go_wp2_with fail
              refine (within_any _ 1048576 _ (by omega) (by omega)).mono ?_
              rintro e w' ⟨rfl, rfl⟩
              rw [HQ.out]
              go_wp2_with (at_builtin; refine wpList_append_L (P := Try.prog) (α := ByteArray × Int) rfl _ _ _ rfl 51 (.agg #[.string ⟨#[]⟩, .int .i64 0]) 2 24 Try.underlying26 (by kernel_rfl) rfl (by decide) w.heap.size pc u6 (dn.filter fun z => z.2 != 0) (x.1, x.2) wn.heap.size #[.string x.1, .int .i64 x.2] rfl rfl (HOW.out.below ((Below.refl _ _).alloc (Nat.le_refl _) _)) (blk_new wn _) rfl rfl (by simp [pc, Value.oneCell']) (by have := HLEN.out; unfold maxLen; omega) (by have := HLEN.out; omega) (by have := HC.out.size; simp; omega) ?_; intro g1 cap w9 hown9 hgrow9 hat9)
              have HC9 := Lib.hid ((HC.out.alloc HC.out.size _).grown hgrow9 (by have := HC.out.size; simp; omega) (fun k hk => (HOW.out.lt k hk).1))
              have HO9 : Hid (OwnL w9 w.heap.size 51 2 pc (.slice (some ⟨g1, 0, none⟩) ((dn.filter fun z => z.2 != 0).length + 1) cap) ((dn ++ [(x.1, x.2)]).filter fun z => z.2 != 0)) := by
                unfold Hid
                rw [filter_nz dn (x.1, x.2) HNZ.out]
                exact hown9
              clear hown9 hgrow9 hat9 HOW HO HC
              go_wp2
              go_roundw
              case rel => exact ⟨A2x, some ⟨By, oy, none⟩, c' - 1, d', xt, y :: yt, dn ++ [(x.1, x.2)], rfl, rfl, by omega, hyd', HA2x, HAy, HM2, HD2, Lib.hid (fun z hz => HIX.out z (List.mem_cons_of_mem _ hz)), HIY, HO9, HC9.out⟩
              case measure => simp [lenV] <;> omega
            ·
              have HM2 : Hid (mg xs ys = (dn ++ [(y.1, y.2)]) ++ mg (x :: xt) yt) := by
                unfold Hid; rw [HM.out, mg_gt _ _ _ _ hlt, List.append_assoc]; rfl
              have HLEN : Hid ((dn.filter fun z => z.2 != 0).length ≤ 64) := by
                have h1 := List.length_filter_le (fun z : ByteArray × Int => z.2 != 0) dn
                have h2 := congrArg List.length HM.out
                rw [List.length_append] at h2
                have h3 := mg_len xs ys
                exact (show _ ≤ _ by omega)
              have tv := HG2.out.each y (HIY.out y List.mem_cons_self)
              have HQ := Lib.hid (show decide (-1048576 ≤ y.2 ∧ y.2 ≤ 1048576) = true from tv.2.2)
              have HD2 := Lib.hid (all_mem HD.out (show inQ y.2 = true from tv.2.2) (s := y.1))
              have tq : (y.2 != 0) = true := by rw [bne_iff_ne]; exact tv.2.1
              clear tv
              have R0x := Lib.hid (keep q0x ((Below.refl _ _).alloc (Nat.le_refl _) (.cells #[.string ⟨#[]⟩, .int .i64 0] 51)))
              have R1x := Lib.hid (keep q1x ((Below.refl _ _).alloc (Nat.le_refl _) (.cells #[.string ⟨#[]⟩, .int .i64 0] 51)))
              have R0y := Lib.hid (keep q0y ((Below.refl _ _).alloc (Nat.le_refl _) (.cells #[.string ⟨#[]⟩, .int .i64 0] 51)))
              have R1y := Lib.hid (keep q1y ((Below.refl _ _).alloc (Nat.le_refl _) (.cells #[.string ⟨#[]⟩, .int .i64 0] 51)))
              have t1 : Op.bytesLess x.1.toList y.1.toList = false := lt_asymm hlt
              have t2 : Op.bytesLess y.1.toList x.1.toList = true := hlt
              go_wp2_with fail
              go_quiet (fail)
              go_wp2_with fail
              go_quiet (fail)
              generalize hwq : World.drewN _ _ = wq
              have G1 : wq.heap[wr.heap.size]? = some (.cells #[.string ⟨#[]⟩, .int .i64 0] 51 (0, 0)) := by rw [← hwq]; exact blk_new wr _
              have G2 : Below wr.heap.size wr wq := by rw [← hwq]; first | exact below_drewN ((Below.refl _ _).alloc (Nat.le_refl _) _) _ | exact below_drewN (below_drewN ((Below.refl _ _).alloc (Nat.le_refl _) _) _) _
              have G0 : wr.heap.size < wq.heap.size := by rw [← hwq]; show wr.heap.size < (wr.alloc _).heap.size; simp
              have r0x : wq.cell? ⟨Bx, ox, none⟩ = some (.string x.1) := by rw [← hwq]; exact R0x.out
              have r1x : wq.cell? ⟨Bx, ox + 1, none⟩ = some (.int .i64 x.2) := by rw [← hwq]; exact R1x.out
              have r0y : wq.cell? ⟨By, oy, none⟩ = some (.string y.1) := by rw [← hwq]; exact R0y.out
              have r1y : wq.cell? ⟨By, oy + 1, none⟩ = some (.int .i64 y.2) := by rw [← hwq]; exact R1y.out
              clear q0x q1x R0x R1x
              clear q0y q1y R0y R1y
              have p0 : wq.cell? ⟨wr.heap.size, 0, none⟩ = some (.string ⟨#[]⟩) := cell_of G1 0 _ rfl
              have p1 : wq.cell? ⟨wr.heap.size, 1, none⟩ = some (.int .i64 0) := cell_of G1 1 _ rfl
              have f0 := frozen_of G1 0
              have f1 := frozen_of G1 1
              have HG := Lib.hid (And.intro G1 (And.intro G2 G0))
              clear hwq G1 G2 G0
              go_wp2_with fail
              go_region
              generalize hwn : World.drew _ = wn
              have HN : Hid (wn.heap[wr.heap.size]? = some (.cells #[.string y.1, .int .i64 y.2] 51 (0, 0)) ∧ Below wr.heap.size wr wn) := by
                rw [← hwn]
                exact box_set HG.out.1 HG.out.2.1 y.1 y.2
              clear hwn HG p0 p1 f0 f1
              generalize hA2 : (if d' = 1 then some (⟨By, oy, none⟩ : Addr) else some ⟨By, oy + 2, none⟩) = A2y
              have HA2y : Hid (AtL w 2 pc A2y yt) := by rw [← hA2]; exact cut_if HAy.out hyd'
              clear hA2
              clear r0x r1x r0y r1y t1 t2 hlt
              have p0 : wn.cell? ⟨wr.heap.size, 0, none⟩ = some (.string y.1) := cell_of HN.out.1 0 _ rfl
              have p1 : wn.cell? ⟨wr.heap.size, 1, none⟩ = some (.int .i64 y.2) := cell_of HN.out.1 1 _ rfl
              have HC := Lib.hid (bt hbw HN.out.2 (Nat.le_refl _))
              have HOW := Lib.hid (HO.out.below HN.out.2)
              have HNZ := Lib.hid tq
              go_wp2_with fail
              refine (within_any _ 1048576 _ (by omega) (by omega)).mono ?_
              rintro e w' ⟨rfl, rfl⟩
              rw [HQ.out]
              go_wp2_with (at_builtin; refine wpList_append_L (P := Try.prog) (α := ByteArray × Int) rfl _ _ _ rfl 51 (.agg #[.string ⟨#[]⟩, .int .i64 0]) 2 24 Try.underlying26 (by kernel_rfl) rfl (by decide) w.heap.size pc u6 (dn.filter fun z => z.2 != 0) (y.1, y.2) wn.heap.size #[.string y.1, .int .i64 y.2] rfl rfl (HOW.out.below ((Below.refl _ _).alloc (Nat.le_refl _) _)) (blk_new wn _) rfl rfl (by simp [pc, Value.oneCell']) (by have := HLEN.out; unfold maxLen; omega) (by have := HLEN.out; omega) (by have := HC.out.size; simp; omega) ?_; intro g1 cap w9 hown9 hgrow9 hat9)
              have HC9 := Lib.hid ((HC.out.alloc HC.out.size _).grown hgrow9 (by have := HC.out.size; simp; omega) (fun k hk => (HOW.out.lt k hk).1))
              have HO9 : Hid (OwnL w9 w.heap.size 51 2 pc (.slice (some ⟨g1, 0, none⟩) ((dn.filter fun z => z.2 != 0).length + 1) cap) ((dn ++ [(y.1, y.2)]).filter fun z => z.2 != 0)) := by
                unfold Hid
                rw [filter_nz dn (y.1, y.2) HNZ.out]
                exact hown9
              clear hown9 hgrow9 hat9 HOW HO HC
              go_wp2
              go_roundw
              case rel => exact ⟨some ⟨Bx, ox, none⟩, A2y, c', d' - 1, x :: xt, yt, dn ++ [(y.1, y.2)], rfl, rfl, hxc', by omega, HAx, HA2y, HM2, HD2, HIX, Lib.hid (fun z hz => HIY.out z (List.mem_cons_of_mem _ hz)), HO9, HC9.out⟩
              case measure => simp [lenV] <;> omega
            ·
              obtain ⟨Q, hQ⟩ : ∃ Q, Q = x.2 + y.2 := ⟨_, rfl⟩
              have HM2 : Hid (mg xs ys = (dn ++ [(x.1, Q)]) ++ mg xt yt) := by
                unfold Hid; rw [HM.out, mg_eq _ _ _ _ hlt, List.append_assoc, hQ]; rfl
              have HLEN : Hid ((dn.filter fun z => z.2 != 0).length ≤ 64) := by
                have h1 := List.length_filter_le (fun z : ByteArray × Int => z.2 != 0) dn
                have h2 := congrArg List.length HM.out
                rw [List.length_append] at h2
                have h3 := mg_len xs ys
                exact (show _ ≤ _ by omega)
              have hqx := of_decide_eq_true (HG1.out.each x (HIX.out x List.mem_cons_self)).2.2
              have hqy := of_decide_eq_true (HG2.out.each y (HIY.out y List.mem_cons_self)).2.2
              have HW : Hid (IntKind.i64.wrap (x.2 + y.2) = Q) := by
                unfold Hid
                rw [hQ]
                exact IntWalk.i64_in _ (by omega)
              clear hQ
              have R0x := Lib.hid (keep q0x ((Below.refl _ _).alloc (Nat.le_refl _) (.cells #[.string ⟨#[]⟩, .int .i64 0] 51)))
              have R1x := Lib.hid (keep q1x ((Below.refl _ _).alloc (Nat.le_refl _) (.cells #[.string ⟨#[]⟩, .int .i64 0] 51)))
              have R0y := Lib.hid (keep q0y ((Below.refl _ _).alloc (Nat.le_refl _) (.cells #[.string ⟨#[]⟩, .int .i64 0] 51)))
              have R1y := Lib.hid (keep q1y ((Below.refl _ _).alloc (Nat.le_refl _) (.cells #[.string ⟨#[]⟩, .int .i64 0] 51)))
              have t1 : Op.bytesLess x.1.toList y.1.toList = false := by rw [hlt]; exact less_irrefl _
              have t2 : Op.bytesLess y.1.toList x.1.toList = false := by rw [hlt]; exact less_irrefl _
              clear hlt
              go_wp2_with fail
              go_quiet (fail)
              go_wp2_with fail
              go_quiet (fail)
              generalize hwq : World.drewN _ _ = wq
              have G1 : wq.heap[wr.heap.size]? = some (.cells #[.string ⟨#[]⟩, .int .i64 0] 51 (0, 0)) := by rw [← hwq]; exact blk_new wr _
              have G2 : Below wr.heap.size wr wq := by rw [← hwq]; first | exact below_drewN ((Below.refl _ _).alloc (Nat.le_refl _) _) _ | exact below_drewN (below_drewN ((Below.refl _ _).alloc (Nat.le_refl _) _) _) _
              have G0 : wr.heap.size < wq.heap.size := by rw [← hwq]; show wr.heap.size < (wr.alloc _).heap.size; simp
              have r0x : wq.cell? ⟨Bx, ox, none⟩ = some (.string x.1) := by rw [← hwq]; exact R0x.out
              have r1x : wq.cell? ⟨Bx, ox + 1, none⟩ = some (.int .i64 x.2) := by rw [← hwq]; exact R1x.out
              have r0y : wq.cell? ⟨By, oy, none⟩ = some (.string y.1) := by rw [← hwq]; exact R0y.out
              have r1y : wq.cell? ⟨By, oy + 1, none⟩ = some (.int .i64 y.2) := by rw [← hwq]; exact R1y.out
              clear q0x q1x R0x R1x
              clear q0y q1y R0y R1y
              have p0 : wq.cell? ⟨wr.heap.size, 0, none⟩ = some (.string ⟨#[]⟩) := cell_of G1 0 _ rfl
              have p1 : wq.cell? ⟨wr.heap.size, 1, none⟩ = some (.int .i64 0) := cell_of G1 1 _ rfl
              have f0 := frozen_of G1 0
              have f1 := frozen_of G1 1
              have HG := Lib.hid (And.intro G1 (And.intro G2 G0))
              clear hwq G1 G2 G0
              go_wp2_with fail
              generalize hwn : World.setCell _ _ _ = wm
              have HN0 : Hid (wm.heap[wr.heap.size]? = some (.cells #[.string x.1, .int .i64 x.2] 51 (0, 0)) ∧ Below wr.heap.size wr wm) := by
                rw [← hwn]
                have := box_set HG.out.1 HG.out.2.1 x.1 x.2
                exact ⟨this.1, (HG.out.2.1.setCell (by simp) _).setCell (by simp) _⟩
              have s1y : wm.cell? ⟨By, oy + 1, none⟩ = some (.int .i64 y.2) := by
                rw [← hwn]
                exact (((Below.refl wq.heap.size wq).mono (show wr.heap.size ≤ wq.heap.size by have := HG.out.2.2; omega)).setCell (p := ⟨wr.heap.size, 0, none⟩) (by simp) _ |>.setCell (p := ⟨wr.heap.size, 1, none⟩) (by simp) _).cell (p := ⟨By, oy + 1, none⟩) hby |>.trans r1y
              clear hwn HG p0 p1 f0 f1 r0x r1x r0y r1y t1 t2
              have p1 : wm.cell? ⟨wr.heap.size, 1, none⟩ = some (.int .i64 x.2) := cell_of HN0.out.1 1 _ rfl
              have f1 := frozen_of HN0.out.1 1
              have n1 := HW.out
              go_wp2_with fail
              go_region
              clear n1
              generalize hwn : World.drew _ = wn0
              have HN1 : Hid (wn0.heap[wr.heap.size]? = some (.cells #[.string x.1, .int .i64 Q] 51 (0, 0)) ∧ Below wr.heap.size wr wn0) := by
                rw [← hwn]
                refine ⟨?_, (HN0.out.2.setCell (by simp) _).drew⟩
                show (wm.setCell _ _).heap[wr.heap.size]? = _
                simp [World.setCell, Array.getElem?_modify, HN0.out.1]
              clear hwn HN0 p1 f1 s1y
              go_wp2_with fail
              go_quiet (fail)
              generalize hwn : World.drewN _ _ = wn
              have HN : Hid (wn.heap[wr.heap.size]? = some (.cells #[.string x.1, .int .i64 Q] 51 (0, 0)) ∧ Below wr.heap.size wr wn) := by
                rw [← hwn]
                exact ⟨HN1.out.1, below_drewN HN1.out.2 _⟩
              clear hwn HN1
              generalize hA2 : (if c' = 1 then some (⟨Bx, ox, none⟩ : Addr) else some ⟨Bx, ox + 2, none⟩) = A2x
              have HA2x : Hid (AtL w 2 pc A2x xt) := by rw [← hA2]; exact cut_if HAx.out hxc'
              clear hA2
              generalize hA2 : (if d' = 1 then some (⟨By, oy, none⟩ : Addr) else some ⟨By, oy + 2, none⟩) = A2y
              have HA2y : Hid (AtL w 2 pc A2y yt) := by rw [← hA2]; exact cut_if HAy.out hyd'
              clear hA2
              have p0 : wn.cell? ⟨wr.heap.size, 0, none⟩ = some (.string x.1) := cell_of HN.out.1 0 _ rfl
              have p1 : wn.cell? ⟨wr.heap.size, 1, none⟩ = some (.int .i64 Q) := cell_of HN.out.1 1 _ rfl
              have HC := Lib.hid (bt hbw HN.out.2 (Nat.le_refl _))
              have HOW := Lib.hid (HO.out.below HN.out.2)
              rcases hb (decide (-1048576 ≤ Q ∧ Q ≤ 1048576)) with hq | hq
              · have HQ := Lib.hid hq
                have HD2 := Lib.hid (all_mem HD.out (show inQ Q = true from hq) (s := x.1))
                clear hq
                rcases hb (Q != 0) with tq | tq
                · have HNZ := Lib.hid tq
                  go_wp2_with fail
                  refine (within_any _ 1048576 _ (by omega) (by omega)).mono ?_
                  rintro e w' ⟨rfl, rfl⟩
                  rw [HQ.out]
                  go_wp2_with (at_builtin; refine wpList_append_L (P := Try.prog) (α := ByteArray × Int) rfl _ _ _ rfl 51 (.agg #[.string ⟨#[]⟩, .int .i64 0]) 2 24 Try.underlying26 (by kernel_rfl) rfl (by decide) w.heap.size pc u6 (dn.filter fun z => z.2 != 0) (x.1, Q) wn.heap.size #[.string x.1, .int .i64 Q] rfl rfl (HOW.out.below ((Below.refl _ _).alloc (Nat.le_refl _) _)) (blk_new wn _) rfl rfl (by simp [pc, Value.oneCell']) (by have := HLEN.out; unfold maxLen; omega) (by have := HLEN.out; omega) (by have := HC.out.size; simp; omega) ?_; intro g1 cap w9 hown9 hgrow9 hat9)
                  have HC9 := Lib.hid ((HC.out.alloc HC.out.size _).grown hgrow9 (by have := HC.out.size; simp; omega) (fun k hk => (HOW.out.lt k hk).1))
                  have HO9 : Hid (OwnL w9 w.heap.size 51 2 pc (.slice (some ⟨g1, 0, none⟩) ((dn.filter fun z => z.2 != 0).length + 1) cap) ((dn ++ [(x.1, Q)]).filter fun z => z.2 != 0)) := by
                    unfold Hid
                    rw [filter_nz dn (x.1, Q) HNZ.out]
                    exact hown9
                  clear hown9 hgrow9 hat9 HOW HO HC
                  go_wp2
                  go_roundw
                  case rel => exact ⟨A2x, A2y, c' - 1, d' - 1, xt, yt, dn ++ [(x.1, Q)], rfl, rfl, by omega, by omega, HA2x, HA2y, HM2, HD2, Lib.hid (fun z hz => HIX.out z (List.mem_cons_of_mem _ hz)), Lib.hid (fun z hz => HIY.out z (List.mem_cons_of_mem _ hz)), HO9, HC9.out⟩
                  case measure => simp [lenV] <;> omega
                · have HO9 : Hid (OwnL wn w.heap.size 51 2 pc u6 ((dn ++ [(x.1, Q)]).filter fun z => z.2 != 0)) := by
                    unfold Hid
                    rw [filter_z dn (x.1, Q) tq]
                    exact HOW.out
                  go_wp2_with fail
                  refine (within_any _ 1048576 _ (by omega) (by omega)).mono ?_
                  rintro e w' ⟨rfl, rfl⟩
                  rw [HQ.out]
                  clear HO HOW
                  go_wp2
                  go_roundw
                  case rel => exact ⟨A2x, A2y, c' - 1, d' - 1, xt, yt, dn ++ [(x.1, Q)], rfl, rfl, by omega, by omega, HA2x, HA2y, HM2, HD2, Lib.hid (fun z hz => HIX.out z (List.mem_cons_of_mem _ hz)), Lib.hid (fun z hz => HIY.out z (List.mem_cons_of_mem _ hz)), HO9, HC.out⟩
                  case measure => simp [lenV] <;> omega
              · have HQ := Lib.hid hq
                have HE2 : Hid (joinE xs ys = 52) := by
                  have hall : ((mg xs ys).all fun z => inQ z.2) = false := by
                    rw [List.all_eq_false]
                    exact ⟨(x.1, Q), by rw [HM2.out]; simp, by rw [show inQ Q = false from hq]; simp⟩
                  unfold Hid
                  rw [HE.out, hall]
                  rfl
                clear hq
                go_wp2_with fail
                refine (within_any _ 1048576 _ (by omega) (by omega)).mono ?_
                rintro e w' ⟨rfl, rfl⟩
                rw [HQ.out]
                go_wp2
                go_ret2
                exact ⟨_, by rw [HE2.out]; rfl, by unfold joinL; rw [HE2.out]; exact OwnL.nil _ _ _ _ _, HC.out⟩
    · have HK1 := Lib.hid h1
      have HK2 := Lib.hid h2
      have HE2 := Lib.hid (show joinE xs ys = 8 by unfold joinE; rw [h1, h2]; rfl)
      clear h1 h2 hA hB hx hy
      go_enter Try.func31, Try.ntmps31
      go_wp2_with fail
      refine (HP1.out w true (Below.refl _ _) HK1.out).mono ?_
      rintro e w1 ⟨rfl, hb1⟩
      have hev : errV true = 0 := rfl
      rw [hev]
      clear hev
      go_wp2_with fail
      refine (HP2.out w1 false hb1 HK2.out).mono ?_
      rintro e w2 ⟨rfl, hb2⟩
      have hev : errV false = 8 := rfl
      rw [hev]
      clear hev
      have c2 := bt hb1 hb2 (Nat.le_refl _)
      clear hb1 hb2
      go_wp2
      go_ret2
      exact ⟨_, by rw [HE2.out]; rfl, by unfold joinL; rw [HE2.out]; exact OwnL.nil _ _ _ _ _, c2⟩
  · have HK1 := Lib.hid h1
    have HE2 := Lib.hid (show joinE xs ys = 8 by unfold joinE; rw [h1]; rfl)
    clear h1 hA hB hx hy
    go_enter Try.func31, Try.ntmps31
    go_wp2_with fail
    refine (HP1.out w false (Below.refl _ _) HK1.out).mono ?_
    rintro e w1 ⟨rfl, hb1⟩
    have hev : errV false = 8 := rfl
    rw [hev]
    clear hev
    go_wp2
    go_ret2
    exact ⟨_, by rw [HE2.out]; rfl, by unfold joinL; rw [HE2.out]; exact OwnL.nil _ _ _ _ _, hb1⟩
end Go.Proofs.Ytmljjofpbonplaa.Mg
