/-
  Member: the walk of the function that Use hands to change.
-/
import Derived.Test.YtoemjpfoddeinaaMbE
namespace Go.Proofs.Ytoemjpfoddeinaa.Mb
open Go.RowKit Go.Proofs.Ytoemjpfoddeinaa Go.Proofs.Ytoemjpfoddeinaa.Ls Go.Proofs.Ytoemjpfoddeinaa.Kb
open Go.Proofs.Ytoemjpfoddeinaa.Nm hiding ret_bool ret_int

theorem own_same {α : Type} {w : World} {B k i : Nat} {T : TypeId} {f : α → List Value} {v : Value} {xs : List α} {y : α} (h : OwnL w B T k f v xs) (hi : i < xs.length) (hy : f y = f xs[i]) : OwnL w B T k f v (xs.set i y) := by
  have e : (xs.set i y).flatMap f = xs.flatMap f := by
    rw [List.flatMap_def, List.flatMap_def, List.map_set, hy]
    congr 1
    have : f xs[i] = (xs.map f)[i]'(by simpa using hi) := by simp
    rw [this, List.set_getElem_self]
  unfold OwnL at h ⊢
  rw [e, List.length_set]
  exact h
theorem acc_us (x : Ac) (n : Int) : acc { x with us := n } = (acc x).set 3 (.int .i64 n) := rfl
/-- what is used of one account is written -/
theorem put_us {w : World} {B g cap i ga' : Nat} {ys : List P} (h : OwnM w B (some ⟨g, 0, none⟩) cap ys) (hi : i < ys.length) (hs : (gp ys i).2.1 = some ⟨ga', 0, none⟩) (J : Nat) (hJ : J < (gp ys i).1.ac.length) (n : Int) :
    OwnM (w.setCell ⟨ga', J * 4 + 3, none⟩ (.int .i64 n)) B (some ⟨g, 0, none⟩) cap (ys.set i (({ (gp ys i).1 with ac := (gp ys i).1.ac.set J { ga (gp ys i).1.ac J with us := n } } : Me), (gp ys i).2)) ∧
    (∀ (b : Nat) (cs : Array Value), w.heap[b]? = some (.cells cs 24 (0, 0)) → (w.setCell ⟨ga', J * 4 + 3, none⟩ (.int .i64 n)).heap[b]? = some (.cells cs 24 (0, 0))) ∧
    Below B w (w.setCell ⟨ga', J * 4 + 3, none⟩ (.int .i64 n)) := by
  have hrow := h.rows.own _ (gp_mem ys i hi)
  have hsl : sl (gp ys i) = .slice (some ⟨ga', 0, none⟩) (gp ys i).1.ac.length (gp ys i).2.2 := by unfold sl; rw [hs]
  rw [hsl] at hrow
  have hput := OwnL.put acc_len hrow hJ (show 3 < 4 by omega) { ga (gp ys i).1.ac J with us := n } (.int .i64 n) (by rw [getElem_ga]; exact acc_us _ _)
  have hg : w.grownBy (w.setCell ⟨ga', J * 4 + 3, none⟩ (.int .i64 n)) (sl (gp ys i)).ownBlock := by
    rw [hsl]
    exact grown_setCells w ga' (J * 4 + 3) [.int .i64 n]
  have hrs := h.rows.set (y := (({ (gp ys i).1 with ac := (gp ys i).1.ac.set J { ga (gp ys i).1.ac J with us := n } } : Me), (gp ys i).2)) hi hg (by unfold sl; rw [hs]; exact hput) (fun b hb => .inl (by rw [hsl]; unfold sl at hb; rw [hs] at hb; exact hb))
  have hms := own_kept h.ms hg (own_ne2 h.ms (h.rows.own _ (gp_mem ys i hi)) (by decide))
  have hms2 := own_same (y := (({ (gp ys i).1 with ac := (gp ys i).1.ac.set J { ga (gp ys i).1.ac J with us := n } } : Me), (gp ys i).2)) hms hi (by rw [getElem_gp]; unfold mec; rw [List.length_set])
  obtain ⟨cs0, hc0⟩ := own_in hrow ga' rfl
  have hBa := (hrow.lt ga' rfl).1
  refine ⟨⟨by rw [List.length_set]; exact hms2, hrs⟩, fun b cs hc => set_other hc (fun e => by rw [e, hc] at hc0; cases hc0) _, below_put _ hBa⟩

set_option maxRecDepth 100000 in
set_option maxHeartbeats 4000000 in
theorem do_use (t : ByteArray) (n : Int) (X Y : Nat) (w : World) (hX : w.cell? ⟨X, 0, none⟩ = some (.string t)) (hY : w.cell? ⟨Y, 0, none⟩ = some (.int .i64 n)) (_hn : i64 n) (g cap i : Nat) (ys : List P) (wx : World) (hi : i < ys.length) (_hZ : OkM (gp ys i).1) (hv : val (gp ys i).1 = true) (hO : OwnM wx w.heap.size (some ⟨g, 0, none⟩) cap ys) (hb : Below w.heap.size w wx) :
    Calls Try.prog 54 #[.pointer (some ⟨g, i * 5, none⟩), .pointer (some ⟨X, 0, none⟩), .pointer (some ⟨Y, 0, none⟩)] wx (DoPost (fUse t n) w.heap.size g cap i ys wx) := by
  obtain ⟨A, hA⟩ : ∃ A, A = (gp ys i).2.1 := ⟨_, rfl⟩
  have hx := keep hX hb
  have hy := keep hY hb
  have HM := Lib.hid (fun wy (h : Below wx.heap.size wx wy) => mem_at (hO.below h) hi)
  have HO := Lib.hid hO
  have HB := Lib.hid hb.size
  have hbase := hb.size
  obtain ⟨hs, hl16, hoka⟩ := val_parts hv
  have HOKA := Lib.hid hoka
  clear hoka
  have HFI := Lib.hid (fun wy (h : Below wx.heap.size wx wy) => finda A (gp ys i).2.2 (gp ys i).1.ac t wy (by omega) (by rw [hA]; exact (hO.below h).at.ac _ (gp_mem ys i hi)) hs)
  obtain ⟨f, hf⟩ : ∃ f, f = fUse t n := ⟨_, rfl⟩
  have HF : Hid (f (gp ys i).1 = (if has (nas (gp ys i).1.ac) t then (if sig n then (if (gp ys i).1.su && decide (ab (ga (gp ys i).1.ac (pos (nas (gp ys i).1.ac) t)).us < ab ((ga (gp ys i).1.ac (pos (nas (gp ys i).1.ac) t)).us + n)) then ((gp ys i).1, 20) else ({ (gp ys i).1 with ac := addU (gp ys i).1.ac (pos (nas (gp ys i).1.ac) t) n }, 0)) else ((gp ys i).1, 2)) else ((gp ys i).1, 6))) := by rw [hf]; rfl
  have HPH := Lib.hid (pos_has (nas (gp ys i).1.ac) t hs)
  rw [← hf]
  obtain ⟨hh, hhh⟩ : ∃ hh, hh = has (nas (gp ys i).1.ac) t := ⟨_, rfl⟩
  obtain ⟨J, hJ⟩ : ∃ J, J = pos (nas (gp ys i).1.ac) t := ⟨_, rfl⟩
  rw [← hhh, ← hJ] at HFI HF HPH
  have HB1 := Lib.hid (show ∀ wy, Below wx.heap.size wx wy → wy.cell? ⟨g, i * 5 + 4, none⟩ = some (.slice A (gp ys i).1.ac.length (gp ys i).2.2) ∧ wy.cell? ⟨X, 0, none⟩ = some (.string t) from fun wy h => ⟨by rw [hA]; exact (HM.out wy h).1.2.2.2.2, keep hx h⟩)
  have HAE := Lib.hid hA
  have HYK := Lib.hid (show ∀ wy, Below wx.heap.size wx wy → wy.cell? ⟨Y, 0, none⟩ = some (.int .i64 n) from fun wy h => keep hy h)
  clear hhh hJ hf hO hb hX hs hA hY hy
  have k0 : Below wx.heap.size wx wx := Below.refl _ _
  have kd := k0.drew
  obtain ⟨q4, _⟩ := HB1.out wx k0
  go_enter Try.func54, Try.ntmps54
  go_wp2_with fail
  go_region_held3 (fun wy => wy.cell? ⟨g, i * 5 + 4, none⟩ = some (.slice A (gp ys i).1.ac.length (gp ys i).2.2) ∧ wy.cell? ⟨X, 0, none⟩ = some (.string t))
    (first | exact HB1.out _ (by assumption) | exact HB1.out _ (Below.drew (by assumption)) | go_keep)
    ((go_at_call 50; refine (HFI.out _ (by first | assumption | exact Below.drew (by assumption))).mono ?_; rintro e w2 ⟨rfl, hb2⟩; have k2 : Below wx.heap.size wx w2 := bt (by first | assumption | exact Below.drew (by assumption)) hb2 (Nat.le_refl _)))
  have HO2 := Lib.hid (HO.out.below k2)
  clear q4 hx kd k0 hb2
  cases hh
  · have HE := Lib.hid (show (f (gp ys i).1).2 = 6 by rw [HF.out]; rfl)
    go_wp2_with fail
    go_ret
    exact do_err HE.out (by decide) k2 HB.out
  have HF2 := Lib.hid (show f (gp ys i).1 = (if sig n then (if (gp ys i).1.su && decide (ab (ga (gp ys i).1.ac J).us < ab ((ga (gp ys i).1.ac J).us + n)) then ((gp ys i).1, 20) else ({ (gp ys i).1 with ac := addU (gp ys i).1.ac J n }, 0)) else ((gp ys i).1, 2)) by rw [HF.out]; rfl)
  have hJl : J < (gp ys i).1.ac.length := by have := (HPH.out rfl).1; simpa [nas] using this
  have hrow := HO2.out.rows.own _ (gp_mem ys i hi)
  have hat := HO2.out.at.ac _ (gp_mem ys i hi)
  rw [← HAE.out] at hat
  have hrow : OwnL w2 w.heap.size 32 4 acc (.slice A (gp ys i).1.ac.length (gp ys i).2.2) (gp ys i).1.ac := by rw [HAE.out]; exact hrow
  obtain ⟨ga', cur, hga, _⟩ := OwnL.row hrow (by omega)
  have hsl : sl (gp ys i) = .slice A (gp ys i).1.ac.length (gp ys i).2.2 := by rw [HAE.out]; rfl
  obtain ⟨⟨q0, q1, q2, q3, q4⟩, hfz, hBg, hgl⟩ := mem_at HO2.out hi
  have f4 := hfz 4 (by omega)
  rw [← HAE.out] at q4
  subst hga
  obtain ⟨a0, a1, a2, a3⟩ := at_a' hat J hJl
  simp only [Nat.zero_add] at a0 a1 a2 a3
  have HROW := Lib.hid (show OwnL w2 w.heap.size 32 4 acc (.slice (some ⟨ga', 0, none⟩) (gp ys i).1.ac.length (gp ys i).2.2) (gp ys i).1.ac from hrow)
  have HSL := Lib.hid (show sl (gp ys i) = .slice (some ⟨ga', 0, none⟩) (gp ys i).1.ac.length (gp ys i).2.2 from hsl)
  have HAF := Lib.hid (show w2.frozen? ⟨ga', J * 4 + 3, none⟩ = false from (hrow.there _ (by obtain ⟨_, _, _, h3, _⟩ := hrow.row'; have : (J + 1) * 4 ≤ (gp ys i).2.2 * 4 := Nat.mul_le_mul_right _ (by omega); omega)).2)
  clear hrow hat hfz hsl HF HPH HFI
  have j0 : (0 : Int) ≤ (J : Int) := by omega
  have j1 : (J : Int) < ((gp ys i).1.ac.length : Int) := by omega
  have y2 := HYK.out w2 k2
  have hus := (okA_bound (HOKA.out _ (ga_mem _ J hJl))).2
  rcases Kb.hb (sig n) with h1 | h1
  case inr =>
    have HE := Lib.hid (show (f (gp ys i).1).2 = 2 by rw [HF2.out, h1]; rfl)
    go_wp2_with fail
    refine (signed_any n _).mono ?_
    rintro e w3 ⟨rfl, rfl⟩
    rw [h1]
    go_wp2_with fail
    go_ret
    exact do_err HE.out (by decide) k2 HB.out
  have hnb : -1125899906842624 ≤ n ∧ n ≤ 1125899906842624 := by unfold sig at h1; simp at h1; omega
  have HF3 := Lib.hid (show f (gp ys i).1 = (if (gp ys i).1.su && decide (ab (ga (gp ys i).1.ac J).us < ab ((ga (gp ys i).1.ac J).us + n)) then ((gp ys i).1, 20) else ({ (gp ys i).1 with ac := addU (gp ys i).1.ac J n }, 0)) by rw [HF2.out, h1]; rfl)
  have hw1 : IntKind.i64.wrap ((ga (gp ys i).1.ac J).us + n) = (ga (gp ys i).1.ac J).us + n := IntWalk.i64_in _ (by omega)
  have hab1 : -9223372036854775807 ≤ (ga (gp ys i).1.ac J).us + n ∧ (ga (gp ys i).1.ac J).us + n ≤ 9223372036854775807 := by omega
  have hab2 : -9223372036854775807 ≤ (ga (gp ys i).1.ac J).us ∧ (ga (gp ys i).1.ac J).us ≤ 9223372036854775807 := by omega
  have HPU := Lib.hid (fun wy (h : Below w2.heap.size w2 wy) => put_us (HO2.out.below h) hi (by rw [← HAE.out]) J hJl ((ga (gp ys i).1.ac J).us + n))
  have af := HAF.out
  obtain ⟨su, hsu⟩ : ∃ su, su = (gp ys i).1.su := ⟨_, rfl⟩
  rw [← hsu] at q2 HF3
  clear hsu hus hnb HF2 HOKA
  cases su
  · have HE := Lib.hid (show f (gp ys i).1 = ({ (gp ys i).1 with ac := addU (gp ys i).1.ac J n }, 0) by rw [HF3.out]; rfl)
    go_wp2_with fail
    refine (signed_any n _).mono ?_
    rintro e w3 ⟨rfl, rfl⟩
    rw [h1]
    go_wp2_with fail
    go_region
    all_goals
      go_wp2_with fail
      go_ret
      exact do_ok _ HE.out rfl (((below_drewN k2 _).mono HB.out).trans (HPU.out _ (below_drewN (Below.refl _ _) _)).2.2) (fun b cs hc => (HPU.out _ (below_drewN (Below.refl _ _) _)).2.1 b cs (blk_keep hc (below_drewN k2 _))) (HPU.out _ (below_drewN (Below.refl _ _) _)).1
  · by_cases h2 : ab (ga (gp ys i).1.ac J).us < ab ((ga (gp ys i).1.ac J).us + n)
    · have HE := Lib.hid (show (f (gp ys i).1).2 = 20 by rw [HF3.out, decide_eq_true h2]; rfl)
      go_wp2_with fail
      refine (signed_any n _).mono ?_
      rintro e w3 ⟨rfl, rfl⟩
      rw [h1]
      go_wp2_with fail
      refine (abs_any _ _ hab1).mono ?_
      rintro e w3 ⟨rfl, rfl⟩
      go_wp2_with fail
      refine (abs_any _ _ hab2).mono ?_
      rintro e w3 ⟨rfl, rfl⟩
      go_wp2_with fail
      go_ret
      exact do_err HE.out (by decide) k2 HB.out
    · have HE := Lib.hid (show f (gp ys i).1 = ({ (gp ys i).1 with ac := addU (gp ys i).1.ac J n }, 0) by rw [HF3.out, decide_eq_false h2]; rfl)
      go_wp2_with fail
      refine (signed_any n _).mono ?_
      rintro e w3 ⟨rfl, rfl⟩
      rw [h1]
      go_wp2_with fail
      refine (abs_any _ _ hab1).mono ?_
      rintro e w3 ⟨rfl, rfl⟩
      go_wp2_with fail
      refine (abs_any _ _ hab2).mono ?_
      rintro e w3 ⟨rfl, rfl⟩
      go_wp2_with fail
      go_region
      all_goals
        go_wp2_with fail
        go_ret
        exact do_ok _ HE.out rfl (((below_drewN k2 _).mono HB.out).trans (HPU.out _ (below_drewN (Below.refl _ _) _)).2.2) (fun b cs hc => (HPU.out _ (below_drewN (Below.refl _ _) _)).2.1 b cs (blk_keep hc (below_drewN k2 _))) (HPU.out _ (below_drewN (Below.refl _ _) _)).1
end Go.Proofs.Ytoemjpfoddeinaa.Mb
