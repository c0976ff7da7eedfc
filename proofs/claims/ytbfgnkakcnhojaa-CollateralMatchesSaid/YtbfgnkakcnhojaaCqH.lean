/-
  The walk of the law CollateralMatches.
-/
import Derived.Test.YtbfgnkakcnhojaaCoX
import Derived.Test.YtbfgnkakcnhojaaCoZ
import Derived.Test.YtbfgnkakcnhojaaCqF
import Derived.Test.YtbfgnkakcnhojaaLs5
namespace Go.Proofs.Ytbfgnkakcnhojaa.Co
open Go.RowKit Go.Proofs.Ytbfgnkakcnhojaa Go.Proofs.Ytbfgnkakcnhojaa.Ls Go.Proofs.Ytbfgnkakcnhojaa.Kb
open Go.Proofs.Ytbfgnkakcnhojaa.Nm hiding ret_bool ret_int

theorem cut_in {p q : Prop} (h : p) (k : p → q) : q := k h
theorem blk_at (w : World) (o : Obj) {g : Nat} (hg : g = w.heap.size) : (w.alloc o).heap[g]? = some o := by rw [hg]; exact blk_new w o
theorem blk_drew {w : World} {b : Nat} {o : Obj} (h : w.heap[b]? = some o) : w.drew.heap[b]? = some o := h
theorem sz_drew (w : World) : w.drew.heap.size = w.heap.size := rfl
theorem far_blk {A B : World} {g b : Nat} {o : Obj} (hg : A.grownBy B (some g)) (h : A.heap[b]? = some o) (hne : g ≠ b) : B.heap[b]? = some o := (hg.block b (blk_lt h) (fun e => hne (by injection e with e; exact e.symm))).trans h
theorem below_al {w0 w : World} (h : Below w0.heap.size w0 w) (o : Obj) : Below w0.heap.size w0 (w.alloc o) := h.alloc h.size o
theorem own_apart' {α : Type} {A B : World} {B0 : Nat} {T : TypeId} {k : Nat} {f : α → List Value} {v : Value} {xs : List α} {g : Nat} (h : OwnL A B0 T k f v xs) (hg : A.grownBy B (some g)) (hr : v.ownBlock ≠ some g) : OwnL B B0 T k f v xs := by
  refine World.ownsRow.kept h hg ?_
  rcases h.2 with ⟨rfl, _⟩ | ⟨g', cap, cur, rfl, _, hgg, _⟩
  · exact .inl rfl
  · exact .inr fun e => (by first | exact hr e | exact hr e.symm)
theorem own_al {α : Type} {w : World} {B0 : Nat} {T : TypeId} {k : Nat} {f : α → List Value} {v : Value} {xs : List α} (h : OwnL w B0 T k f v xs) (o : Obj) : OwnL (w.alloc o) B0 T k f v xs := h.below ((Below.refl _ _).alloc (Nat.le_refl _) _)
theorem own_apartT {α : Type} {A B : World} {B0 : Nat} {T T' : TypeId} {k : Nat} {f : α → List Value} {v : Value} {xs : List α} {g : Nat} {cs : Array Value} (h : OwnL A B0 T k f v xs) (hg : A.grownBy B (some g)) (hb : A.heap[g]? = some (.cells cs T' (0, 0))) (hT : T ≠ T') : OwnL B B0 T k f v xs := own_apart' h hg (own_blk h hb hT)
theorem below_set {w0 w : World} {b o : Nat} {v : Value} (h : Below w0.heap.size w0 w) (hB : w0.heap.size ≤ b) : Below w0.heap.size w0 (w.setCell ⟨b, o, none⟩ v) := h.setCell (p := ⟨b, o, none⟩) hB v
theorem set2b {w : World} {B : Nat} {a b : Value} {t : TypeId} (h : w.heap[B]? = some (.cells #[a, b] t (0, 0))) (x y : Value) : ((w.setCell ⟨B, 0, none⟩ x).setCell ⟨B, 1, none⟩ y).heap[B]? = some (.cells #[x, y] t (0, 0)) := by
  have h1 := heap_setCells [x] w #[a, b] 0 h
  have h2 := heap_setCells [y] (w.setCell ⟨B, 0, none⟩ x) #[x, b] 1 h1
  exact h2
theorem fin_new {w0 w : World} {x y : Value} {xs : List As} {ys : List (ByteArray × Int)} (h1 : OwnL w w0.heap.size 48 6 asc x xs) (h2 : OwnL w w0.heap.size 50 2 isc y ys) (h3 : Below w0.heap.size w0 w) :
    (w.alloc (.cells #[x, y] 25)).heap[w.heap.size]? = some (.cells #[x, y] 25 (0, 0)) ∧ OwnL (w.alloc (.cells #[x, y] 25)) w0.heap.size 48 6 asc x xs ∧ OwnL (w.alloc (.cells #[x, y] 25)) w0.heap.size 50 2 isc y ys ∧ Below w0.heap.size w0 (w.alloc (.cells #[x, y] 25)) ∧ w0.heap.size ≤ w.heap.size :=
  ⟨blk_new _ _, own_al h1 _, own_al h2 _, below_al h3 _, h3.size⟩
theorem fin_set {w0 w : World} {B : Nat} {x y : Value} {xs : List As} {ys : List (ByteArray × Int)} (h : w.heap[B]? = some (.cells #[.slice none 0 0, .slice none 0 0] 25 (0, 0))) (h1 : OwnL w w0.heap.size 48 6 asc x xs) (h2 : OwnL w w0.heap.size 50 2 isc y ys) (h3 : Below w0.heap.size w0 w) (h4 : w0.heap.size ≤ B) :
    ((w.setCell ⟨B, 0, none⟩ x).setCell ⟨B, 1, none⟩ y).heap[B]? = some (.cells #[x, y] 25 (0, 0)) ∧ OwnL ((w.setCell ⟨B, 0, none⟩ x).setCell ⟨B, 1, none⟩ y) w0.heap.size 48 6 asc x xs ∧ OwnL ((w.setCell ⟨B, 0, none⟩ x).setCell ⟨B, 1, none⟩ y) w0.heap.size 50 2 isc y ys ∧ Below w0.heap.size w0 ((w.setCell ⟨B, 0, none⟩ x).setCell ⟨B, 1, none⟩ y) ∧ w0.heap.size ≤ B :=
  ⟨set2b h x y, (h1.far (p := ⟨B, 0, none⟩) (own_blk h1 h (by decide)) x).far (p := ⟨B, 1, none⟩) (own_blk h1 h (by decide)) y, (h2.far (p := ⟨B, 0, none⟩) (own_blk h2 h (by decide)) x).far (p := ⟨B, 1, none⟩) (own_blk h2 h (by decide)) y, below_set (below_set h3 h4) h4, h4⟩
theorem info_as : (Try.prog.info? 48).map (fun i => (i.zero, i.size, i.bytes)) = some (some (.agg #[.string ⟨#[]⟩, .string ⟨#[]⟩, .int .i64 0, .int .i64 0, .int .i64 0, .bool false]), 6, 64) := by kernel_rfl
theorem info_iss : (Try.prog.info? 50).map (fun i => (i.zero, i.size, i.bytes)) = some (some (.agg #[.string ⟨#[]⟩, .int .i64 0]), 2, 24) := by kernel_rfl
theorem eql_as (x : As) (w : World) : (binOp .eql 48 (.agg #[.string x.nm, .string x.iss, .int .i64 x.pr, .int .i64 x.hc, .int .i64 x.mo, .bool x.el]) (.agg #[.string x.nm, .string x.iss, .int .i64 x.pr, .int .i64 x.hc, .int .i64 x.mo, .bool x.el])).run Try.prog w = .ok (.bool true) w := by
  rw [run_eql_struct, run_equalIn_struct w 9999 _ _ _ (by kernel_rfl) (by kernel_rfl)]
  have hf : (Try.prog.fieldsOf 48).toList = [⟨"Name", 9, 0, false, "", "", 0⟩, ⟨"Issuer", 9, 1, false, "", "", 16⟩, ⟨"Price", 3, 2, false, "", "", 32⟩, ⟨"Haircut", 3, 3, false, "", "", 40⟩, ⟨"Most", 3, 4, false, "", "", 48⟩, ⟨"Eligible", 4, 5, false, "", "", 56⟩] := by kernel_rfl
  rw [hf]
  simp [Op.eqFields, part, go_sem]
theorem eql_iss (x : ByteArray × Int) (w : World) : (binOp .eql 50 (.agg #[.string x.1, .int .i64 x.2]) (.agg #[.string x.1, .int .i64 x.2])).run Try.prog w = .ok (.bool true) w := by
  rw [run_eql_struct, run_equalIn_struct w 9999 _ _ _ (by kernel_rfl) (by kernel_rfl)]
  have hf : (Try.prog.fieldsOf 50).toList = [⟨"Name", 9, 0, false, "", "", 0⟩, ⟨"Most", 3, 1, false, "", "", 16⟩] := by kernel_rfl
  rw [hf]
  simp [Op.eqFields, part, go_sem]
/-- what holdings count for, at any input -/
def ctL (A : List As) (I L : List (ByteArray × Int)) : List Int := if fitB A I L then (gl (mkP A L) (moF I)).map Prod.snd else []
theorem ctL_len (A : List As) (I L : List (ByteArray × Int)) : (ctL A I L).length ≤ L.length := by
  unfold ctL
  split
  · rw [List.length_map, gl_len, mkP_len]; exact Nat.le_refl _
  · exact Nat.zero_le _
theorem counted_q (aA aI aL : Option Addr) (cA cI cL : Nat) (A : List As) (I L : List (ByteArray × Int)) (w : World) (hnA : A.length ≤ 1000) (hnI : I.length ≤ 1000) (hnL : L.length ≤ 1000) (hZA : SzA A) (hZI : SzL I) (hZL : SzL L) (hA : AtL w 6 asc aA A) (hI : AtL w 2 isc aI I) (hL : AtL w 2 isc aL L) :
    Calls Try.prog 16 #[.agg #[.slice aA A.length cA, .slice aI I.length cI], .slice aL L.length cL] w fun e w' => ∃ a c, e = .returned (.tuple #[.slice a (ctL A I L).length c, .int .i64 (eV (fitB A I L))]) ∧ AtL w' 1 ic a (ctL A I L) ∧ Below w.heap.size w w' := by
  unfold ctL
  rcases hb (fitB A I L) with h | h
  · rw [h, if_pos rfl, List.length_map, gl_len, mkP_len]
    exact (counted_yes aA aI aL cA cI cL A I L w hnA hnI hnL hZA hZI hZL hA hI hL h).mono fun e w' ⟨a, c, h1, h2, h3⟩ => ⟨a, c, h1, (h2.sl ic_len).1, h3⟩
  · rw [h, if_neg (by decide)]
    exact (counted_no aA aI aL cA cI cL A I L w hnA hnI hnL hZA hZI hZL hA hI hL h).mono fun e w' ⟨h1, h2⟩ => ⟨none, 0, h1, AtL.nil _ _ _ _, h2⟩
theorem rcounted_q (aA aI aL : Option Addr) (cA cI cL : Nat) (A : List As) (I L : List (ByteArray × Int)) (w : World) (hnA : A.length ≤ 1000) (hnI : I.length ≤ 1000) (hnL : L.length ≤ 1000) (hZA : SzA A) (hZI : SzL I) (hZL : SzL L) (hA : AtL w 6 asc aA A) (hI : AtL w 2 isc aI I) (hL : AtL w 2 isc aL L) :
    Calls Try.prog 17 #[.agg #[.slice aA A.length cA, .slice aI I.length cI], .slice aL L.length cL] w fun e w' => ∃ a c, e = .returned (.tuple #[.slice a (ctL A I L).length c, .int .i64 (eV (fitB A I L))]) ∧ AtL w' 1 ic a (ctL A I L) ∧ Below w.heap.size w w' := by
  unfold ctL
  rcases hb (fitB A I L) with h | h
  · rw [h, if_pos rfl, List.length_map, gl_len, mkP_len]
    exact (rcounted_yes aA aI aL cA cI cL A I L w hnA hnI hnL hZA hZI hZL hA hI hL h).mono fun e w' ⟨a, c, h1, h2, h3⟩ => ⟨a, c, h1, (h2.sl ic_len).1, h3⟩
  · rw [h, if_neg (by decide)]
    exact (rcounted_no aA aI aL cA cI cL A I L w hnA hnI hnL hZA hZI hZL hA hI hL h).mono fun e w' ⟨h1, h2⟩ => ⟨none, 0, h1, AtL.nil _ _ _ _, h2⟩
theorem rvalue_q (aA aI aL : Option Addr) (cA cI cL : Nat) (A : List As) (I L : List (ByteArray × Int)) (w : World) (hnA : A.length ≤ 1000) (hnI : I.length ≤ 1000) (hnL : L.length ≤ 1000) (hZA : SzA A) (hZI : SzL I) (hZL : SzL L) (hA : AtL w 6 asc aA A) (hI : AtL w 2 isc aI I) (hL : AtL w 2 isc aL L) :
    Calls Try.prog 19 #[.agg #[.slice aA A.length cA, .slice aI I.length cI], .slice aL L.length cL] w fun e w' => e = .returned (.tuple #[.int .i64 (vF A I L), .int .i64 (eV (fitB A I L))]) ∧ Below w.heap.size w w' := by
  unfold vF
  rcases hb (fitB A I L) with h | h
  · rw [h]
    exact rvalue_yes aA aI aL cA cI cL A I L w hnA hnI hnL hZA hZI hZL hA hI hL h
  · rw [h]
    exact rvalue_no aA aI aL cA cI cL A I L w hnA hnI hnL hZA hZI hZL hA hI hL h
theorem rmarket_q (aA aI aL : Option Addr) (cA cI cL : Nat) (A : List As) (I L : List (ByteArray × Int)) (w : World) (hnA : A.length ≤ 1000) (hnI : I.length ≤ 1000) (hnL : L.length ≤ 1000) (hZA : SzA A) (hZI : SzL I) (hZL : SzL L) (hA : AtL w 6 asc aA A) (hI : AtL w 2 isc aI I) (hL : AtL w 2 isc aL L) :
    Calls Try.prog 15 #[.agg #[.slice aA A.length cA, .slice aI I.length cI], .slice aL L.length cL] w fun e w' => e = .returned (.tuple #[.int .i64 (mF A I L), .int .i64 (eV (fitB A I L))]) ∧ Below w.heap.size w w' := by
  unfold mF
  rcases hb (fitB A I L) with h | h
  · rw [h]
    exact rmarket_yes aA aI aL cA cI cL A I L w hnA hnI hnL hZA hZI hZL hA hI hL h
  · rw [h]
    exact rmarket_no aA aI aL cA cI cL A I L w hnA hnI hnL hZA hZI hZL hA hI hL h
set_option maxRecDepth 100000 in
set_option maxHeartbeats 8000000 in
theorem matches_walk {W : World} (aA aI : Option Addr) (cA cI : Nat) (A : List As) (I : List (ByteArray × Int)) (hZA : SzA A) (hZI : SzL I) (hA : AtL W 6 asc aA A) (hI : AtL W 2 isc aI I)
    (aL : Option Addr) (cL : Nat) (L : List (ByteArray × Int)) (hZL : SzL L) (hL : AtL W 2 isc aL L) (t : ByteArray) (ht : t.size ≤ maxLen) (need : Int) (_hn : (Lit.int .i64 need).wf = true) :
    Calls Try.prog 3 #[.agg #[.slice aA A.length cA, .slice aI I.length cI], .slice aL L.length cL, .string t, .int .i64 need] W fun e W' => e = .returned (.bool true) ∧ Below W.heap.size W W' := by
  have hbo : Below W.heap.size W (W.alloc (.cells #[.slice aA A.length cA, .slice aI I.length cI] 25)) := (Below.refl _ _).alloc (Nat.le_refl _) _
  have HX0 := Lib.hid (blk_new W (.cells #[.slice aA A.length cA, .slice aI I.length cI] 25))
  rcases hb (greatB A.length I.length L.length) with hg | hg
  · have HG := Lib.hid hg
    clear hg
    go_enter Try.func3, Try.ntmps3
    go_wp2_with fail
    generalize W.alloc _ = wo at hbo HX0 ⊢
    refine (alive_any wo).mono ?_
    rintro e w1 ⟨rfl, hb1⟩
    have c1 := bt hbo hb1 (Nat.le_refl _)
    have HX1 := Lib.hid (blk_keep HX0.out hb1)
    have hx0 : w1.cell? ⟨W.heap.size, 0, none⟩ = some (.slice aA A.length cA) := cell_of HX1.out 0 _ rfl
    have hx1 : w1.cell? ⟨W.heap.size, 1, none⟩ = some (.slice aI I.length cI) := cell_of HX1.out 1 _ rfl
    clear HX0 hb1 hbo
    go_wp2_with fail
    refine (great_any aA aI aL A.length I.length L.length cA cI cL w1).mono ?_
    rintro e w2 ⟨rfl, hb2⟩
    have c2 := bt c1 hb2 (Nat.le_refl _)
    have HX2 := Lib.hid (blk_keep HX1.out hb2)
    rw [HG.out]
    clear HX1 hx0 hx1 c1 hb2
    go_wp2
    go_ret
    exact ⟨rfl, c2⟩
  · obtain ⟨hlA, hlI, hlL⟩ := great_no hg
    have HG := Lib.hid hg
    clear hg
    have HA := Lib.hid hA
    have HI := Lib.hid hI
    have HL := Lib.hid hL
    clear hA hI hL
    go_enter Try.func3, Try.ntmps3
    go_wp2_with fail
    generalize W.alloc _ = wo at hbo HX0 ⊢
    refine (alive_any wo).mono ?_
    rintro e w1 ⟨rfl, hb1⟩
    have c1 := bt hbo hb1 (Nat.le_refl _)
    have HX1 := Lib.hid (blk_keep HX0.out hb1)
    have hx0 : w1.cell? ⟨W.heap.size, 0, none⟩ = some (.slice aA A.length cA) := cell_of HX1.out 0 _ rfl
    have hx1 : w1.cell? ⟨W.heap.size, 1, none⟩ = some (.slice aI I.length cI) := cell_of HX1.out 1 _ rfl
    clear HX0 hb1 hbo
    go_wp2_with fail
    refine (great_any aA aI aL A.length I.length L.length cA cI cL w1).mono ?_
    rintro e w2 ⟨rfl, hb2⟩
    have c2 := bt c1 hb2 (Nat.le_refl _)
    have HX2 := Lib.hid (blk_keep HX1.out hb2)
    rw [HG.out]
    clear HX1 hx0 hx1 c1 hb2
    have HB := Lib.hid (show ∀ wx, Below w2.heap.size w2 wx → wx.cell? ⟨W.heap.size, 0, none⟩ = some (.slice aA A.length cA) ∧ wx.cell? ⟨W.heap.size, 1, none⟩ = some (.slice aI I.length cI) from
      fun wx hx => ⟨cell_of (blk_keep HX2.out hx) 0 _ rfl, cell_of (blk_keep HX2.out hx) 1 _ rfl⟩)
    have HA2 := Lib.hid (fun (v : World) (hv : Below w2.heap.size w2 v) => (HA.out.below c2).below hv)
    have HI2 := Lib.hid (fun (v : World) (hv : Below w2.heap.size w2 v) => (HI.out.below c2).below hv)
    obtain ⟨x0, x1⟩ := HB.out w2 (Below.refl _ _)
    have hxl := blk_lt HX2.out
    have hws := c2.size
    go_wp2_with fail
    go_upto_region 4 with fail
    go_cut [10] from 40 to 48 (fun p wn => ∃ (B : Nat) (a1 a2 : Option Addr) (c1 c2 : Nat), p = .pointer (some ⟨B, 0, none⟩) ∧ Hid (wn.heap[B]? = some (.cells #[.slice a1 A.length c1, .slice a2 I.length c2] 25 (0, 0)) ∧ OwnL wn w2.heap.size 48 6 asc (.slice a1 A.length c1) A ∧ OwnL wn w2.heap.size 50 2 isc (.slice a2 I.length c2) I ∧ Below w2.heap.size w2 wn ∧ w2.heap.size ≤ B))
    case first =>
      go_region_held3 (fun w' => w'.cell? ⟨W.heap.size, 0, none⟩ = some (.slice aA A.length cA) ∧ w'.cell? ⟨W.heap.size, 1, none⟩ = some (.slice aI I.length cI)) (first | exact HB.out _ (by (repeat (first | with_reducible exact Below.refl _ _ | with_reducible assumption | with_reducible refine below_al ?_ _ | with_reducible refine Below.drew ?_ | ((with_reducible refine below_set ?_ ?_); rotate_left; (first | exact Nat.le_refl _ | omega))))) | go_keep)
        (first | (refine step_append_copy (P := Try.prog) (α := ByteArray × Int) rfl _ _ _ rfl 50 (Value.agg #[.string ⟨#[]⟩, .int .i64 0]) 2 24 Try.underlying23 info_iss rfl (by decide) w2.heap.size _ isc isc_len isc_one I aI cI (by rfl) I.length rfl (by rfl) (by (repeat (first | ((with_reducible refine blk_at _ _ ?_); (first | with_reducible rfl | (simp; done))) | with_reducible assumption | with_reducible refine blk_past _ _ ?_ | with_reducible refine blk_drew ?_ | ((with_reducible refine far_blk hg9 ?_ ?_); rotate_left; (first | omega | (simp; done)))))) (by first | exact Nat.le_refl _ | omega | (simp; done) | (have := k9.size; omega)) (HI2.out _ (by (repeat (first | with_reducible exact Below.refl _ _ | with_reducible assumption | with_reducible refine below_al ?_ _ | with_reducible refine Below.drew ?_ | ((with_reducible refine below_set ?_ ?_); rotate_left; (first | exact Nat.le_refl _ | omega)))))) (by unfold maxLen; omega) (by omega) ?_; intro a8 d8 w8 ho8 hg8; have k8 : Below w2.heap.size w2 w8 := Below.grown (show Below w2.heap.size w2 _ from by (repeat (first | with_reducible exact Below.refl _ _ | with_reducible assumption | with_reducible refine below_al ?_ _ | with_reducible refine Below.drew ?_ | ((with_reducible refine below_set ?_ ?_); rotate_left; (first | exact Nat.le_refl _ | omega))))) hg8 (show Below w2.heap.size w2 _ from by (repeat (first | with_reducible exact Below.refl _ _ | with_reducible assumption | with_reducible refine below_al ?_ _ | with_reducible refine Below.drew ?_ | ((with_reducible refine below_set ?_ ?_); rotate_left; (first | exact Nat.le_refl _ | omega))))).size (fun j hj => by cases hj; first | exact Nat.le_refl _ | omega | (simp; done) | (have := k9.size; omega)); have O8 := Lib.hid ho8; have O98 := Lib.hid (own_apartT (T := 48) (k := 6) (f := asc) (v := .slice a9 A.length d9) (xs := A) (B0 := w2.heap.size) (T' := 50) (cs := #[]) (by (repeat (first | with_reducible exact O9.out | with_reducible refine own_al ?_ _))) hg8 (by (repeat (first | ((with_reducible refine blk_at _ _ ?_); (first | with_reducible rfl | (simp; done))) | with_reducible assumption | with_reducible refine blk_past _ _ ?_ | with_reducible refine blk_drew ?_ | ((with_reducible refine far_blk hg9 ?_ ?_); rotate_left; (first | omega | (simp; done)))))) (by decide)); (try (refine cut_in (p := w8.heap[w2.heap.size]? = some (.cells #[.slice none 0 0, .slice none 0 0] 25 (0, 0))) ?_ (fun bz8 => ?_); (focus (refine far_blk hg8 ?_ ?_; (focus ((repeat (first | ((with_reducible refine blk_at _ _ ?_); (first | with_reducible rfl | (simp; done))) | with_reducible assumption | with_reducible refine blk_past _ _ ?_ | with_reducible refine blk_drew ?_ | ((with_reducible refine far_blk hg9 ?_ ?_); rotate_left; (first | omega | (simp; done))))); done)); (focus (first | omega | (simp; done))))); have z0 : w8.cell? ⟨w2.heap.size, 0, none⟩ = some (.slice none 0 0) := cell_of bz8 0 _ rfl; have f0 : w8.frozen? ⟨w2.heap.size, 0, none⟩ = false := frozen_of bz8 0; have z1 : w8.cell? ⟨w2.heap.size, 1, none⟩ = some (.slice none 0 0) := cell_of bz8 1 _ rfl; have f1 : w8.frozen? ⟨w2.heap.size, 1, none⟩ = false := frozen_of bz8 1)); (try (refine cut_in (p := w8.heap[w2.heap.size + 1]? = some (.cells #[.slice none 0 0, .slice none 0 0] 25 (0, 0))) ?_ (fun bz8 => ?_); (focus (refine far_blk hg8 ?_ ?_; (focus ((repeat (first | ((with_reducible refine blk_at _ _ ?_); (first | with_reducible rfl | (simp; done))) | with_reducible assumption | with_reducible refine blk_past _ _ ?_ | with_reducible refine blk_drew ?_ | ((with_reducible refine far_blk hg9 ?_ ?_); rotate_left; (first | omega | (simp; done))))); done)); (focus (first | omega | (simp; done))))); have z0 : w8.cell? ⟨w2.heap.size + 1, 0, none⟩ = some (.slice none 0 0) := cell_of bz8 0 _ rfl; have f0 : w8.frozen? ⟨w2.heap.size + 1, 0, none⟩ = false := frozen_of bz8 0; have z1 : w8.cell? ⟨w2.heap.size + 1, 1, none⟩ = some (.slice none 0 0) := cell_of bz8 1 _ rfl; have f1 : w8.frozen? ⟨w2.heap.size + 1, 1, none⟩ = false := frozen_of bz8 1)); (try (refine cut_in (p := w8.heap[w2.heap.size + 1 + 1]? = some (.cells #[.slice none 0 0, .slice none 0 0] 25 (0, 0))) ?_ (fun bz8 => ?_); (focus (refine far_blk hg8 ?_ ?_; (focus ((repeat (first | ((with_reducible refine blk_at _ _ ?_); (first | with_reducible rfl | (simp; done))) | with_reducible assumption | with_reducible refine blk_past _ _ ?_ | with_reducible refine blk_drew ?_ | ((with_reducible refine far_blk hg9 ?_ ?_); rotate_left; (first | omega | (simp; done))))); done)); (focus (first | omega | (simp; done))))); have z0 : w8.cell? ⟨w2.heap.size + 1 + 1, 0, none⟩ = some (.slice none 0 0) := cell_of bz8 0 _ rfl; have f0 : w8.frozen? ⟨w2.heap.size + 1 + 1, 0, none⟩ = false := frozen_of bz8 0; have z1 : w8.cell? ⟨w2.heap.size + 1 + 1, 1, none⟩ = some (.slice none 0 0) := cell_of bz8 1 _ rfl; have f1 : w8.frozen? ⟨w2.heap.size + 1 + 1, 1, none⟩ = false := frozen_of bz8 1)); (try (refine cut_in (p := w8.heap[w9.heap.size]? = some (.cells #[.slice none 0 0, .slice none 0 0] 25 (0, 0))) ?_ (fun bz8 => ?_); (focus (refine far_blk hg8 ?_ ?_; (focus ((repeat (first | ((with_reducible refine blk_at _ _ ?_); (first | with_reducible rfl | (simp; done))) | with_reducible assumption | with_reducible refine blk_past _ _ ?_ | with_reducible refine blk_drew ?_ | ((with_reducible refine far_blk hg9 ?_ ?_); rotate_left; (first | omega | (simp; done))))); done)); (focus (first | omega | (simp; done))))); have z0 : w8.cell? ⟨w9.heap.size, 0, none⟩ = some (.slice none 0 0) := cell_of bz8 0 _ rfl; have f0 : w8.frozen? ⟨w9.heap.size, 0, none⟩ = false := frozen_of bz8 0; have z1 : w8.cell? ⟨w9.heap.size, 1, none⟩ = some (.slice none 0 0) := cell_of bz8 1 _ rfl; have f1 : w8.frozen? ⟨w9.heap.size, 1, none⟩ = false := frozen_of bz8 1)); (try (refine cut_in (p := w8.heap[w9.heap.size + 1]? = some (.cells #[.slice none 0 0, .slice none 0 0] 25 (0, 0))) ?_ (fun bz8 => ?_); (focus (refine far_blk hg8 ?_ ?_; (focus ((repeat (first | ((with_reducible refine blk_at _ _ ?_); (first | with_reducible rfl | (simp; done))) | with_reducible assumption | with_reducible refine blk_past _ _ ?_ | with_reducible refine blk_drew ?_ | ((with_reducible refine far_blk hg9 ?_ ?_); rotate_left; (first | omega | (simp; done))))); done)); (focus (first | omega | (simp; done))))); have z0 : w8.cell? ⟨w9.heap.size + 1, 0, none⟩ = some (.slice none 0 0) := cell_of bz8 0 _ rfl; have f0 : w8.frozen? ⟨w9.heap.size + 1, 0, none⟩ = false := frozen_of bz8 0; have z1 : w8.cell? ⟨w9.heap.size + 1, 1, none⟩ = some (.slice none 0 0) := cell_of bz8 1 _ rfl; have f1 : w8.frozen? ⟨w9.heap.size + 1, 1, none⟩ = false := frozen_of bz8 1))) | (refine step_append_copy (P := Try.prog) (α := As) rfl _ _ _ rfl 48 (Value.agg #[.string ⟨#[]⟩, .string ⟨#[]⟩, .int .i64 0, .int .i64 0, .int .i64 0, .bool false]) 6 64 Try.underlying22 info_as rfl (by decide) w2.heap.size _ asc asc_len asc_one A aA cA (by rfl) A.length rfl (by rfl) (by (repeat (first | ((with_reducible refine blk_at _ _ ?_); (first | with_reducible rfl | (simp; done))) | with_reducible assumption | with_reducible refine blk_past _ _ ?_ | with_reducible refine blk_drew ?_ | ((with_reducible refine far_blk hg9 ?_ ?_); rotate_left; (first | omega | (simp; done)))))) (by first | exact Nat.le_refl _ | omega | (simp; done) | (have := k9.size; omega)) (HA2.out _ (by (repeat (first | with_reducible exact Below.refl _ _ | with_reducible assumption | with_reducible refine below_al ?_ _ | with_reducible refine Below.drew ?_ | ((with_reducible refine below_set ?_ ?_); rotate_left; (first | exact Nat.le_refl _ | omega)))))) (by unfold maxLen; omega) (by omega) ?_; intro a9 d9 w9 ho9 hg9; have k9 : Below w2.heap.size w2 w9 := Below.grown (show Below w2.heap.size w2 _ from by (repeat (first | with_reducible exact Below.refl _ _ | with_reducible assumption | with_reducible refine below_al ?_ _ | with_reducible refine Below.drew ?_ | ((with_reducible refine below_set ?_ ?_); rotate_left; (first | exact Nat.le_refl _ | omega))))) hg9 (show Below w2.heap.size w2 _ from by (repeat (first | with_reducible exact Below.refl _ _ | with_reducible assumption | with_reducible refine below_al ?_ _ | with_reducible refine Below.drew ?_ | ((with_reducible refine below_set ?_ ?_); rotate_left; (first | exact Nat.le_refl _ | omega))))).size (fun j hj => by cases hj; first | exact Nat.le_refl _ | omega | (simp; done) | (have := k9.size; omega)); have O9 := Lib.hid ho9; have e9 := hg9.size; simp only [World.size_alloc, sz_drew] at e9; (try (refine cut_in (p := w9.heap[w2.heap.size]? = some (.cells #[.slice none 0 0, .slice none 0 0] 25 (0, 0))) ?_ (fun bz => ?_); (focus (refine far_blk hg9 ?_ ?_; (focus ((repeat (first | ((with_reducible refine blk_at _ _ ?_); (first | with_reducible rfl | (simp; done))) | with_reducible assumption | with_reducible refine blk_past _ _ ?_ | with_reducible refine blk_drew ?_ | ((with_reducible refine far_blk hg9 ?_ ?_); rotate_left; (first | omega | (simp; done))))); done)); (focus (first | omega | (simp; done))))))); (try (refine cut_in (p := w9.heap[w2.heap.size + 1]? = some (.cells #[.slice none 0 0, .slice none 0 0] 25 (0, 0))) ?_ (fun bz => ?_); (focus (refine far_blk hg9 ?_ ?_; (focus ((repeat (first | ((with_reducible refine blk_at _ _ ?_); (first | with_reducible rfl | (simp; done))) | with_reducible assumption | with_reducible refine blk_past _ _ ?_ | with_reducible refine blk_drew ?_ | ((with_reducible refine far_blk hg9 ?_ ?_); rotate_left; (first | omega | (simp; done))))); done)); (focus (first | omega | (simp; done))))))); (try (refine cut_in (p := w9.heap[w2.heap.size + 1 + 1]? = some (.cells #[.slice none 0 0, .slice none 0 0] 25 (0, 0))) ?_ (fun bz => ?_); (focus (refine far_blk hg9 ?_ ?_; (focus ((repeat (first | ((with_reducible refine blk_at _ _ ?_); (first | with_reducible rfl | (simp; done))) | with_reducible assumption | with_reducible refine blk_past _ _ ?_ | with_reducible refine blk_drew ?_ | ((with_reducible refine far_blk hg9 ?_ ?_); rotate_left; (first | omega | (simp; done))))); done)); (focus (first | omega | (simp; done)))))))))
      all_goals
        go_wp2
        go_meet
        case rel =>
          first
          | exact ⟨_, a9, a8, d9, d8, rfl, Lib.hid (fin_new O98.out O8.out k8)⟩
          | exact ⟨_, a9, a8, d9, d8, rfl, Lib.hid (fin_set bz8 O98.out O8.out k8 (by first | exact Nat.le_refl _ | omega))⟩
    case rest =>
      obtain ⟨B, a1, a2, d1, d2, rfl, HP⟩ := hcut
      obtain ⟨r, e0, hR⟩ := relR_exists A I L t need
      have c3 := c2.trans (HP.out.2.2.2.1.mono c2.size)
      have HX3 := Lib.hid (blk_keep HX2.out HP.out.2.2.2.1)
      have HY3 := Lib.hid HP.out.1
      have O13 := Lib.hid (HP.out.2.1.sl asc_len).1
      have O23 := Lib.hid (HP.out.2.2.1.sl isc_len).1
      clear HP HB HA2 HI2 x0 x1 hxl hws
      go_wp2_with fail
      refine (twin_any aL cL L wc (by omega) (HL.out.below c3)).mono ?_
      rintro e w4 ⟨a6, c6, rfl, hO6, hb4⟩
      have c4 := bt c3 hb4 (Nat.le_refl _)
      have HX := Lib.hid (blk_keep HX3.out hb4)
      have HY := Lib.hid (blk_keep HY3.out hb4)
      have O1 := Lib.hid (O13.out.below hb4)
      have O2 := Lib.hid (O23.out.below hb4)
      have A6 := Lib.hid (hO6.sl isc_len).1
      have HB := Lib.hid (show ∀ wx, Below w4.heap.size w4 wx → wx.cell? ⟨W.heap.size, 0, none⟩ = some (.slice aA A.length cA) ∧ wx.cell? ⟨W.heap.size, 1, none⟩ = some (.slice aI I.length cI) ∧ wx.cell? ⟨B, 0, none⟩ = some (.slice a1 A.length d1) ∧ wx.cell? ⟨B, 1, none⟩ = some (.slice a2 I.length d2) from
        fun wx hx => ⟨cell_of (blk_keep HX.out hx) 0 _ rfl, cell_of (blk_keep HX.out hx) 1 _ rfl, cell_of (blk_keep HY.out hx) 0 _ rfl, cell_of (blk_keep HY.out hx) 1 _ rfl⟩)
      have H1 := Lib.hid (fun (v : World) (hv : Below w4.heap.size w4 v) => market_q a1 a2 a6 d1 d2 c6 A I L v (by omega) (by omega) (by omega) hZA hZI hZL (O1.out.below hv) (O2.out.below hv) (A6.out.below hv))
      have H2 := Lib.hid (fun (v : World) (hv : Below w4.heap.size w4 v) => rmarket_q aA aI aL cA cI cL A I L v (by omega) (by omega) (by omega) hZA hZI hZL (HA.out.below (c4.trans (hv.mono c4.size))) (HI.out.below (c4.trans (hv.mono c4.size))) (HL.out.below (c4.trans (hv.mono c4.size))))
      have H3 := Lib.hid (fun (v : World) (hv : Below w4.heap.size w4 v) => counted_q a1 a2 a6 d1 d2 c6 A I L v (by omega) (by omega) (by omega) hZA hZI hZL (O1.out.below hv) (O2.out.below hv) (A6.out.below hv))
      have H4 := Lib.hid (fun (v : World) (hv : Below w4.heap.size w4 v) => rcounted_q aA aI aL cA cI cL A I L v (by omega) (by omega) (by omega) hZA hZI hZL (HA.out.below (c4.trans (hv.mono c4.size))) (HI.out.below (c4.trans (hv.mono c4.size))) (HL.out.below (c4.trans (hv.mono c4.size))))
      have H5 := Lib.hid (fun (v : World) (hv : Below w4.heap.size w4 v) => value_q a1 a2 a6 d1 d2 c6 A I L v (by omega) (by omega) (by omega) hZA hZI hZL (O1.out.below hv) (O2.out.below hv) (A6.out.below hv))
      have H6 := Lib.hid (fun (v : World) (hv : Below w4.heap.size w4 v) => rvalue_q aA aI aL cA cI cL A I L v (by omega) (by omega) (by omega) hZA hZI hZL (HA.out.below (c4.trans (hv.mono c4.size))) (HI.out.below (c4.trans (hv.mono c4.size))) (HL.out.below (c4.trans (hv.mono c4.size))))
      have H7 := Lib.hid (fun (v : World) (hv : Below w4.heap.size w4 v) => release_any a1 a2 a6 d1 d2 c6 A I L t need r e0 v (by omega) (by omega) (by omega) hZA hZI hZL (O1.out.below hv) (O2.out.below hv) (A6.out.below hv) hR)
      have H8 := Lib.hid (fun (v : World) (hv : Below w4.heap.size w4 v) => rrelease_any aA aI aL cA cI cL A I L t need r e0 v (by omega) (by omega) (by omega) hZA hZI hZL ht (HA.out.below (c4.trans (hv.mono c4.size))) (HI.out.below (c4.trans (hv.mono c4.size))) (HL.out.below (c4.trans (hv.mono c4.size))) hR)
      have HT1 := Lib.hid (fun (v : World) (hv : Below w4.heap.size w4 v) => table_any a1 a2 d1 d2 A I v (by omega) (by omega) hZA hZI (O1.out.below hv) (O2.out.below hv))
      have HT2 := Lib.hid (fun (v : World) (hv : Below w4.heap.size w4 v) => rtable_any aA aI cA cI A I v (by omega) (by omega) hZA hZI (HA.out.below (c4.trans (hv.mono c4.size))) (HI.out.below (c4.trans (hv.mono c4.size))))
      have HK1 := Lib.hid (fun (v : World) (hv : Below w4.heap.size w4 v) => check_any a1 a2 a6 d1 d2 c6 A I L v (by omega) (by omega) (by omega) hZA hZI hZL (O1.out.below hv) (O2.out.below hv) (A6.out.below hv))
      have HK2 := Lib.hid (fun (v : World) (hv : Below w4.heap.size w4 v) => rcheck_any aA aI aL cA cI cL A I L v (by omega) (by omega) (by omega) hZA hZI hZL (HA.out.below (c4.trans (hv.mono c4.size))) (HI.out.below (c4.trans (hv.mono c4.size))) (HL.out.below (c4.trans (hv.mono c4.size))))
      have HSM := Lib.hid (fun (v : World) (hv : Below w4.heap.size w4 v) => same_yes a6 aL c6 cL L v (by omega) (A6.out.below hv) (HL.out.below (c4.trans (hv.mono c4.size))))
      have HCL := Lib.hid (ctL_len A I L)
      clear hR hO6 hb4 O13 O23 HX3 HY3 c3 HX HY HX2 hZA hZI hZL ht A6
      generalize eV (tabB A I) = ET at *
      generalize eV (fitB A I L) = EF at *
      generalize mF A I L = MF at *
      generalize vF A I L = VF at *
      generalize ctL A I L = CT at *
      have k4 : Below w4.heap.size w4 w4 := Below.refl _ _
      obtain ⟨x0, x1, y0, y1⟩ := HB.out w4 k4
      go_wp2_with fail
      refine (H1.out w4 k4).mono ?_
      rintro e w5 ⟨rfl, hbX⟩
      have k5 := bt k4 hbX (Nat.le_refl _)
      clear hbX x0 x1 y0 y1 H1 k4
      obtain ⟨x0, x1, y0, y1⟩ := HB.out w5 k5
      go_wp2_with fail
      refine (H2.out w5 k5).mono ?_
      rintro e w6 ⟨rfl, hbX⟩
      have k6 := bt k5 hbX (Nat.le_refl _)
      clear hbX x0 x1 y0 y1 H2 k5
      obtain ⟨x0, x1, y0, y1⟩ := HB.out w6 k6
      go_wp2_with fail
      refine (H3.out w6 k6).mono ?_
      rintro e w7 ⟨aC, cC, rfl, hAC, hbX⟩
      have k7 := bt k6 hbX (Nat.le_refl _)
      have C7 := Lib.hid hAC
      clear hAC
      clear hbX x0 x1 y0 y1 H3 k6
      obtain ⟨x0, x1, y0, y1⟩ := HB.out w7 k7
      go_wp2_with fail
      refine (H4.out w7 k7).mono ?_
      rintro e w8 ⟨aD, cD, rfl, hAD, hbX⟩
      have k8 := bt k7 hbX (Nat.le_refl _)
      have C8 := Lib.hid (C7.out.below hbX)
      have D8 := Lib.hid hAD
      clear hAD C7
      clear hbX x0 x1 y0 y1 H4 k7
      obtain ⟨x0, x1, y0, y1⟩ := HB.out w8 k8
      go_wp2_with fail
      refine (H5.out w8 k8).mono ?_
      rintro e w9 ⟨rfl, hbX⟩
      have k9 := bt k8 hbX (Nat.le_refl _)
      have C9 := Lib.hid (C8.out.below hbX)
      have D9 := Lib.hid (D8.out.below hbX)
      clear C8 D8
      clear hbX x0 x1 y0 y1 H5 k8
      obtain ⟨x0, x1, y0, y1⟩ := HB.out w9 k9
      go_wp2_with fail
      refine (H6.out w9 k9).mono ?_
      rintro e w10 ⟨rfl, hbX⟩
      have k10 := bt k9 hbX (Nat.le_refl _)
      have C10 := Lib.hid (C9.out.below hbX)
      have D10 := Lib.hid (D9.out.below hbX)
      clear C9 D9
      clear hbX x0 x1 y0 y1 H6 k9
      obtain ⟨x0, x1, y0, y1⟩ := HB.out w10 k10
      go_wp2_with fail
      refine (H7.out w10 k10).mono ?_
      rintro e w11 ⟨rfl, hbX⟩
      have k11 := bt k10 hbX (Nat.le_refl _)
      have C11 := Lib.hid (C10.out.below hbX)
      have D11 := Lib.hid (D10.out.below hbX)
      clear C10 D10
      clear hbX x0 x1 y0 y1 H7 k10
      obtain ⟨x0, x1, y0, y1⟩ := HB.out w11 k11
      go_wp2_with fail
      refine (H8.out w11 k11).mono ?_
      rintro e w12 ⟨rfl, hbX⟩
      have k12 := bt k11 hbX (Nat.le_refl _)
      have C12 := Lib.hid (C11.out.below hbX)
      have D12 := Lib.hid (D11.out.below hbX)
      clear C11 D11
      clear hbX x0 x1 y0 y1 H8 k11
      have HNT := Lib.hid (ints_yes aC aD cC cD CT CT.length w12 rfl (by have := HCL.out; omega) C12.out D12.out)
      clear C12 D12
      go_wp2_with fail
      refine HNT.out.mono ?_
      rintro e w13 ⟨rfl, hbX⟩
      have k13 := bt k12 hbX (Nat.le_refl _)
      clear hbX HNT k12
      obtain ⟨x0, x1, y0, y1⟩ := HB.out w13 k13
      have HB13 := Lib.hid (fun (wx : World) (hx : Below w13.heap.size w13 wx) => HB.out wx (bt k13 hx (Nat.le_refl _)))
      have k0 : Below w13.heap.size w13 w13 := Below.refl _ _
      have kd := k0.drew
      have hj13 := k13.size
      go_wp2_with fail
      go_upto_region 15 with fail
      go_cut [28] from 141 to 157 (fun q wn => q = .bool true ∧ Hid (Below w13.heap.size w13 wn))
      case first =>
        go_region_held3 (fun w' => w'.cell? ⟨W.heap.size, 0, none⟩ = some (.slice aA A.length cA) ∧ w'.cell? ⟨W.heap.size, 1, none⟩ = some (.slice aI I.length cI) ∧ w'.cell? ⟨B, 0, none⟩ = some (.slice a1 A.length d1) ∧ w'.cell? ⟨B, 1, none⟩ = some (.slice a2 I.length d2))
          (first | with_reducible exact HB13.out _ (by assumption) | with_reducible exact HB13.out _ (Below.drew (by assumption)) | go_keep)
          (first
            | (go_at_call 23; refine (HT1.out w13.drew k13.drew).mono ?_; rintro e w21 ⟨rfl, hb21⟩; have k21 : Below w13.heap.size w13 w21 := bt kd hb21 (Nat.le_refl _))
            | (go_at_call 24; refine (HT2.out w21 (bt k13 k21 (Nat.le_refl _))).mono ?_; rintro e w22 ⟨rfl, hb22⟩; have k22 : Below w13.heap.size w13 w22 := bt k21 hb22 (Nat.le_refl _))
            | (go_at_call 25; refine (HK1.out w22 (bt k13 k22 (Nat.le_refl _))).mono ?_; rintro e w23 ⟨rfl, hb23⟩; have k23 : Below w13.heap.size w13 w23 := bt k22 hb23 (Nat.le_refl _))
            | (go_at_call 26; refine (HK2.out w23 (bt k13 k23 (Nat.le_refl _))).mono ?_; rintro e w24 ⟨rfl, hb24⟩; have k24 : Below w13.heap.size w13 w24 := bt k23 hb24 (Nat.le_refl _)))
        all_goals
          go_wp2
          go_meet
          case rel => exact ⟨rfl, Lib.hid (by first | exact k24 | exact k24.drew)⟩
      case rest =>
        obtain ⟨rfl, HQ⟩ := hcut
        have K1 := Lib.hid (bt k13 HQ.out (Nat.le_refl _))
        clear HT1 HT2 HK1 HK2 HQ HB13 k0 kd k13 x0 x1 y0 y1 hj13
        go_wp2_with fail
        go_loopw [28, 29] (fun sm i wr => ∃ k : Nat, k ≤ A.length ∧ i = .int .i64 k ∧ sm = .bool true ∧ Hid (Below w4.heap.size w4 wr)) (fun _ i _ => A.length - (intOf i).toNat)
        case atStart => exact ⟨0, by omega, rfl, rfl, K1.out⟩
        case round =>
          clear K1
          obtain ⟨k, hk, rfl, rfl, HBW⟩ := hrel
          obtain ⟨x0, x1, y0, y1⟩ := HB.out wr HBW.out
          rcases Nat.lt_or_ge k A.length with hlt | hge
          · have hki : (k : Int) < A.length := by omega
            have hk0 : (0 : Int) ≤ (k : Int) := by omega
            obtain ⟨b1, o1, rfl, p0, p1, p2, p3, p4, p5⟩ := at_as (O1.out.below HBW.out) k hlt
            obtain ⟨b2, o2, rfl, q0, q1, q2, q3, q4, q5⟩ := at_as (HA.out.below (c4.trans (HBW.out.mono c4.size))) k hlt
            generalize A.getD k a0 = x at *
            have hq := (fun w => eql_as x w)
            go_wp2_with fail
            go_big_quiet (fail)
            go_wp2
            go_roundw
            case rel => exact ⟨k + 1, by omega, by go_num, rfl, Lib.hid (below_drewN HBW.out _)⟩
            case measure => simp [intOf]; omega
          · obtain rfl : k = A.length := by omega
            have K2 := HBW
            clear HBW hge hk
            go_wp2_with fail
            clear x0 x1 y0 y1
            go_loopw [28, 30] (fun sm i wr => ∃ k : Nat, k ≤ I.length ∧ i = .int .i64 k ∧ sm = .bool true ∧ Hid (Below w4.heap.size w4 wr)) (fun _ i _ => I.length - (intOf i).toNat)
            case atStart => exact ⟨0, by omega, rfl, rfl, K2.out⟩
            case round =>
              clear K2
              obtain ⟨k, hk, rfl, rfl, HBW⟩ := hrel
              obtain ⟨x0, x1, y0, y1⟩ := HB.out wr HBW.out
              rcases Nat.lt_or_ge k I.length with hlt | hge
              · have hki : (k : Int) < I.length := by omega
                have hk0 : (0 : Int) ≤ (k : Int) := by omega
                obtain ⟨b1, o1, rfl, p0, p1⟩ := at_is (O2.out.below HBW.out) k hlt
                obtain ⟨b2, o2, rfl, q0, q1⟩ := at_is (HI.out.below (c4.trans (HBW.out.mono c4.size))) k hlt
                generalize I.getD k i0 = x at *
                have hq := (fun w => eql_iss x w)
                go_wp2_with fail
                go_big_quiet (fail)
                go_wp2
                go_roundw
                case rel => exact ⟨k + 1, by omega, by go_num, rfl, Lib.hid (below_drewN HBW.out _)⟩
                case measure => simp [intOf]; omega
              · obtain rfl : k = I.length := by omega
                have K3 := HBW
                clear HBW hge hk
                have HSQ := Lib.hid (HSM.out wr K3.out)
                go_wp2_with fail
                clear x0 x1 y0 y1
                refine HSQ.out.mono ?_
                rintro e w14 ⟨rfl, hbX⟩
                have cE := c4.trans ((bt K3.out hbX (Nat.le_refl _)).mono c4.size)
                clear hbX HSQ
                go_wp2
                go_ret
                exact ⟨rfl, cE⟩
end Go.Proofs.Ytbfgnkakcnhojaa.Co

