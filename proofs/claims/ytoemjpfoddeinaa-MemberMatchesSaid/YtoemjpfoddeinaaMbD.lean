/-
  Member: the walks of the functions that change is handed: SetLimit and Suspend.
-/
import Derived.Test.YtoemjpfoddeinaaMbC
namespace Go.Proofs.Ytoemjpfoddeinaa.Mb
open Go.RowKit Go.Proofs.Ytoemjpfoddeinaa Go.Proofs.Ytoemjpfoddeinaa.Ls Go.Proofs.Ytoemjpfoddeinaa.Kb
open Go.Proofs.Ytoemjpfoddeinaa.Nm hiding ret_bool ret_int

theorem enter_of {f : Nat} {fn : Func} {c : Code} (hf : Try.prog.funcs[f]? = some fn) (hname : (fn.name == "runtime.NumGoroutine") = false) (hb : fn.body = some c) (args : Array Value) (w : World) :
    (callFunc f args).run Try.prog w = .ok (.enter f args) w := by
  have h1 : fn.name ≠ "runtime.NumGoroutine" := by simpa using hname
  simp [callFunc, hf, h1, hb]
theorem do_err {f : Me → Me × Int} {B g cap i : Nat} {ys : List P} {wx w' : World} {e0 : Int} (h : (f (gp ys i).1).2 = e0) (he : e0 ≠ 0) (hb : Below wx.heap.size wx w') (hB : B ≤ wx.heap.size) : DoPost f B g cap i ys wx (.returned (.int .i64 e0)) w' :=
  ⟨by rw [h], hb.mono hB, fun b cs hc => blk_keep hc hb, fun h0 => absurd (h.symm.trans h0) he⟩
theorem do_ok {f : Me → Me × Int} {B g cap i : Nat} {ys : List P} {wx w' : World} {m : Me} (y : P) (h : f (gp ys i).1 = (m, 0)) (hy : y.1 = m) (hb : Below B wx w') (hbx : ∀ (b : Nat) (cs : Array Value), wx.heap[b]? = some (.cells cs 24 (0, 0)) → w'.heap[b]? = some (.cells cs 24 (0, 0))) (hO : OwnM w' B (some ⟨g, 0, none⟩) cap (ys.set i y)) : DoPost f B g cap i ys wx (.returned (.int .i64 0)) w' :=
  ⟨by rw [h], hb, hbx, fun _ => ⟨y, by rw [h, hy], hO⟩⟩
/-- the member at hand -/
theorem mem_at {w : World} {B g cap i : Nat} {ys : List P} (h : OwnM w B (some ⟨g, 0, none⟩) cap ys) (hi : i < ys.length) :
    (w.cell? ⟨g, i * 5, none⟩ = some (.string (gp ys i).1.nm) ∧ w.cell? ⟨g, i * 5 + 1, none⟩ = some (.int .u8 (gp ys i).1.ro) ∧ w.cell? ⟨g, i * 5 + 2, none⟩ = some (.bool (gp ys i).1.su) ∧ w.cell? ⟨g, i * 5 + 3, none⟩ = some (.int .i64 (gp ys i).1.lim) ∧ w.cell? ⟨g, i * 5 + 4, none⟩ = some (.slice (gp ys i).2.1 (gp ys i).1.ac.length (gp ys i).2.2)) ∧
    (∀ j, j < 5 → w.frozen? ⟨g, i * 5 + j, none⟩ = false) ∧ B ≤ g ∧ g < w.heap.size := by
  have h0 := at_p' h.at.ms i hi
  simp only [Nat.zero_add] at h0
  obtain ⟨cur, h1, h2, h3, h4, h5, h6⟩ := h.ms.row'
  refine ⟨h0, fun j hj => (h.ms.there _ (by have : (i + 1) * 5 ≤ cap * 5 := Nat.mul_le_mul_right _ (by omega); omega)).2, h1, blk_lt h2⟩
/-- a store into the members' block leaves the boxes -/
theorem box_put {w : World} {B g o cap : Nat} {ys : List P} (h : OwnM w B (some ⟨g, 0, none⟩) cap ys) (v : Value) (b : Nat) (cs : Array Value) (hc : w.heap[b]? = some (.cells cs 24 (0, 0))) : (w.setCell ⟨g, o, none⟩ v).heap[b]? = some (.cells cs 24 (0, 0)) := by
  obtain ⟨cs', hg⟩ := own_list h
  exact set_other hc (fun e => by rw [e, hc] at hg; cases hg) v
theorem mec_lim (x : P) (l : Int) : mec ({ x.1 with lim := l }, x.2) = (mec x).set 3 (.int .i64 l) := rfl
theorem mec_su (x : P) (s : Bool) : mec ({ x.1 with su := s }, x.2) = (mec x).set 2 (.bool s) := rfl

set_option maxRecDepth 100000 in
set_option maxHeartbeats 4000000 in
theorem do_lim (lim : Int) (X : Nat) (w : World) (hX : w.cell? ⟨X, 0, none⟩ = some (.int .i64 lim)) (g cap i : Nat) (ys : List P) (wx : World) (hi : i < ys.length) (hO : OwnM wx w.heap.size (some ⟨g, 0, none⟩) cap ys) (hb : Below w.heap.size w wx) :
    Calls Try.prog 46 #[.pointer (some ⟨g, i * 5, none⟩), .pointer (some ⟨X, 0, none⟩)] wx (DoPost (fLim lim) w.heap.size g cap i ys wx) := by
  have hx := keep hX hb
  obtain ⟨⟨q0, q1, q2, q3, q4⟩, hfz, hBg, hgl⟩ := mem_at hO hi
  have f3 := hfz 3 (by omega)
  have HO := Lib.hid hO
  have HB := Lib.hid hb.size
  have HFZ := Lib.hid hfz
  rcases Kb.hb (mon lim) with h1 | h1
  case inr =>
    have HE := Lib.hid (show (fLim lim (gp ys i).1).2 = 2 by unfold fLim; rw [h1]; rfl)
    clear hO hb hX hfz
    go_enter Try.func46, Try.ntmps46
    go_wp2_with fail
    refine (money_any lim _).mono ?_
    rintro e w3 ⟨rfl, rfl⟩
    rw [h1]
    go_wp2_with fail
    go_ret
    exact do_err HE.out (by decide) (Below.refl _ _) HB.out
  case inl =>
    have HE := Lib.hid (show fLim lim (gp ys i).1 = ({ (gp ys i).1 with lim := lim }, 0) by unfold fLim; rw [h1]; rfl)
    clear hO hb hX hfz
    go_enter Try.func46, Try.ntmps46
    go_wp2_with fail
    refine (money_any lim _).mono ?_
    rintro e w3 ⟨rfl, rfl⟩
    rw [h1]
    go_wp2_with fail
    go_ret
    exact do_ok ({ (gp ys i).1 with lim := lim }, (gp ys i).2) HE.out rfl (below_put _ hBg) (box_put HO.out _) (HO.out.put hi (by decide) _ _ (mec_lim _ _) (row_set hi HO.out.rows rfl rfl))

set_option maxRecDepth 100000 in
set_option maxHeartbeats 4000000 in
theorem do_sus (is : Bool) (X : Nat) (w : World) (hX : w.cell? ⟨X, 0, none⟩ = some (.bool is)) (g cap i : Nat) (ys : List P) (wx : World) (hi : i < ys.length) (hO : OwnM wx w.heap.size (some ⟨g, 0, none⟩) cap ys) (hb : Below w.heap.size w wx) :
    Calls Try.prog 48 #[.pointer (some ⟨g, i * 5, none⟩), .pointer (some ⟨X, 0, none⟩)] wx (DoPost (fSus is) w.heap.size g cap i ys wx) := by
  have hx := keep hX hb
  obtain ⟨⟨q0, q1, q2, q3, q4⟩, hfz, hBg, hgl⟩ := mem_at hO hi
  have f2 := hfz 2 (by omega)
  have HO := Lib.hid hO
  have HB := Lib.hid hb.size
  have HFZ := Lib.hid hfz
  by_cases h1 : (gp ys i).1.su = is
  case pos =>
    have HE := Lib.hid (show (fSus is (gp ys i).1).2 = 20 by unfold fSus; rw [if_pos h1])
    have h1' : ((gp ys i).1.su == is) = true := by simpa using h1
    clear hO hb hX hfz h1
    go_enter Try.func48, Try.ntmps48
    go_wp2_with fail
    go_big_quiet (fail)
    go_wp2_with fail
    go_ret
    exact do_err HE.out (by decide) (below_drewN (Below.refl _ _) _) HB.out
  case neg =>
    have HE := Lib.hid (show fSus is (gp ys i).1 = ({ (gp ys i).1 with su := is }, 0) by unfold fSus; rw [if_neg h1])
    have h1' : ((gp ys i).1.su == is) = false := by simpa using h1
    clear hO hb hX hfz h1
    go_enter Try.func48, Try.ntmps48
    go_wp2_with fail
    go_big_quiet (fail)
    go_wp2_with fail
    go_ret
    exact do_ok ({ (gp ys i).1 with su := is }, (gp ys i).2) HE.out rfl (((below_drewN (Below.refl _ _) _).mono HB.out).trans (below_put _ hBg)) (fun b cs hc => box_put (HO.out.below (below_drewN (Below.refl _ _) _)) _ b cs hc) ((HO.out.below (below_drewN (Below.refl _ _) _)).put hi (by decide) _ _ (mec_su _ _) (row_set hi (HO.out.below (below_drewN (Below.refl _ _) _)).rows rfl rfl))
end Go.Proofs.Ytoemjpfoddeinaa.Mb
