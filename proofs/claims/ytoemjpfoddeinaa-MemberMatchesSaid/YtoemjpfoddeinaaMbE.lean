/-
  Member: the walk of the function that Close hands to change.
-/
import Derived.Test.YtoemjpfoddeinaaMbD
namespace Go.Proofs.Ytoemjpfoddeinaa.Mb
open Go.RowKit Go.Proofs.Ytoemjpfoddeinaa Go.Proofs.Ytoemjpfoddeinaa.Ls Go.Proofs.Ytoemjpfoddeinaa.Kb
open Go.Proofs.Ytoemjpfoddeinaa.Nm hiding ret_bool ret_int

theorem val_parts {m : Me} (h : val m = true) : srt (nas m.ac) = true ∧ m.ac.length ≤ 16 ∧ ∀ a ∈ m.ac, okA m.ro a = true := by
  unfold val at h
  simp only [Bool.and_eq_true, decide_eq_true_eq, List.all_eq_true] at h
  exact ⟨h.1.1.2, h.1.1.1.2, h.1.2⟩
theorem mec_ac (x : P) (l : List Ac) (a : Option Addr) (c : Nat) : mec (({ x.1 with ac := l } : Me), (a, c)) = (mec x).set 4 (.slice a l.length c) := rfl
/-- the member's accounts are laid anew, and its cell is written -/
theorem new_row {w w' : World} {B g cap i : Nat} {ys : List P} (h : OwnM w B (some ⟨g, 0, none⟩) cap ys) (hi : i < ys.length) (l : List Ac) (a : Option Addr) (c : Nat)
    (hg : w.grownBy w' (sl (gp ys i)).ownBlock) (hy : OwnL w' B 32 4 acc (.slice a l.length c) l) (hfr : ∀ b, (Value.slice a l.length c).ownBlock = some b → (sl (gp ys i)).ownBlock = some b ∨ w.heap.size ≤ b) :
    OwnM (w'.setCell ⟨g, i * 5 + 4, none⟩ (.slice a l.length c)) B (some ⟨g, 0, none⟩) cap (ys.set i (({ (gp ys i).1 with ac := l } : Me), (a, c))) ∧
    (∀ (b : Nat) (cs : Array Value), w.heap[b]? = some (.cells cs 24 (0, 0)) → (w'.setCell ⟨g, i * 5 + 4, none⟩ (.slice a l.length c)).heap[b]? = some (.cells cs 24 (0, 0))) ∧
    Below B w (w'.setCell ⟨g, i * 5 + 4, none⟩ (.slice a l.length c)) := by
  have hrow := h.rows.own _ (gp_mem ys i hi)
  have hms : OwnL w' B 30 5 mec (.slice (some ⟨g, 0, none⟩) ys.length cap) ys := own_kept h.ms hg (own_ne2 h.ms hrow (by decide))
  have hrs := h.rows.set (y := (({ (gp ys i).1 with ac := l } : Me), (a, c))) hi hg hy hfr
  obtain ⟨cs0, hc0⟩ := own_in hms g rfl
  have hput := OwnL.put mec_len hms hi (show 4 < 5 by omega) (({ (gp ys i).1 with ac := l } : Me), (a, c)) (.slice a l.length c) (by rw [getElem_gp]; exact mec_ac _ _ _ _)
  obtain ⟨cur, hBg, _⟩ := h.ms.row'
  refine ⟨⟨hput, hrs.far hc0 (by decide) _⟩, fun b cs hc => ?_, ?_⟩
  · have h1 : w'.heap[b]? = some (.cells cs 24 (0, 0)) := by
      have hne := own_blk hrow hc (by decide)
      exact (hg.block b (blk_lt hc) (fun e => hne e.symm)).trans hc
    exact set_other h1 (fun e => by rw [e, h1] at hc0; cases hc0) _
  · exact ((Below.refl B w).grown hg (Nat.le_trans hBg (Nat.le_of_lt (by obtain ⟨cs1, hc1⟩ := own_list h; exact blk_lt hc1))) (fun k hk => (hrow.lt k hk).1)).setCell (p := ⟨g, i * 5 + 4, none⟩) hBg _
theorem cell4_of {w : World} {B g cap i : Nat} {ys : List P} (h : OwnL w B 30 5 mec (.slice (some ⟨g, 0, none⟩) ys.length cap) ys) (hi : i < ys.length) :
    w.cell? ⟨g, i * 5 + 4, none⟩ = some (.slice (gp ys i).2.1 (gp ys i).1.ac.length (gp ys i).2.2) ∧ w.frozen? ⟨g, i * 5 + 4, none⟩ = false := by
  have h0 := (at_p' (h.sl mec_len).1 i hi).2.2.2.2
  simp only [Nat.zero_add] at h0
  obtain ⟨cur, h1, h2, h3, h4, h5, h6⟩ := h.row'
  exact ⟨h0, (h.there _ (by have : (i + 1) * 5 ≤ cap * 5 := Nat.mul_le_mul_right _ (by omega); omega)).2⟩

set_option maxRecDepth 100000 in
set_option maxHeartbeats 4000000 in
theorem do_close (t : ByteArray) (X : Nat) (w : World) (hX : w.cell? ⟨X, 0, none⟩ = some (.string t)) (g cap i : Nat) (ys : List P) (wx : World) (hi : i < ys.length) (_hZ : OkM (gp ys i).1) (hv : val (gp ys i).1 = true) (hO : OwnM wx w.heap.size (some ⟨g, 0, none⟩) cap ys) (hb : Below w.heap.size w wx) :
    Calls Try.prog 57 #[.pointer (some ⟨g, i * 5, none⟩), .pointer (some ⟨X, 0, none⟩)] wx (DoPost (fClose t) w.heap.size g cap i ys wx) := by
  obtain ⟨A, hA⟩ : ∃ A, A = (gp ys i).2.1 := ⟨_, rfl⟩
  have hx := keep hX hb
  have HM := Lib.hid (fun wy (h : Below wx.heap.size wx wy) => mem_at (hO.below h) hi)
  have HO := Lib.hid hO
  have HB := Lib.hid hb.size
  have hbase := hb.size
  obtain ⟨hs, hl16, _⟩ := val_parts hv
  have HFI := Lib.hid (fun wy (h : Below wx.heap.size wx wy) => finda A (gp ys i).2.2 (gp ys i).1.ac t wy (by omega) (by rw [hA]; exact (hO.below h).at.ac _ (gp_mem ys i hi)) hs)
  obtain ⟨f, hf⟩ : ∃ f, f = fClose t := ⟨_, rfl⟩
  have HF : Hid (f (gp ys i).1 = (if has (nas (gp ys i).1.ac) t then (if (ga (gp ys i).1.ac (pos (nas (gp ys i).1.ac) t)).us = 0 then ({ (gp ys i).1 with ac := (gp ys i).1.ac.take (pos (nas (gp ys i).1.ac) t) ++ (gp ys i).1.ac.drop (pos (nas (gp ys i).1.ac) t + 1) }, 0) else ((gp ys i).1, 20)) else ((gp ys i).1, 6))) := by rw [hf]; rfl
  have HPH := Lib.hid (pos_has (nas (gp ys i).1.ac) t hs)
  rw [← hf]
  obtain ⟨hh, hhh⟩ : ∃ hh, hh = has (nas (gp ys i).1.ac) t := ⟨_, rfl⟩
  obtain ⟨J, hJ⟩ : ∃ J, J = pos (nas (gp ys i).1.ac) t := ⟨_, rfl⟩
  rw [← hhh, ← hJ] at HFI HF HPH
  have HB1 := Lib.hid (show ∀ wy, Below wx.heap.size wx wy → wy.cell? ⟨g, i * 5 + 4, none⟩ = some (.slice A (gp ys i).1.ac.length (gp ys i).2.2) ∧ wy.cell? ⟨X, 0, none⟩ = some (.string t) from fun wy h => ⟨by rw [hA]; exact (HM.out wy h).1.2.2.2.2, keep hx h⟩)
  have HAE := Lib.hid hA
  clear hhh hJ hf hO hb hX hs hA
  have k0 : Below wx.heap.size wx wx := Below.refl _ _
  have kd := k0.drew
  obtain ⟨q4, _⟩ := HB1.out wx k0
  go_enter Try.func57, Try.ntmps57
  go_wp2_with fail
  go_region_held3 (fun wy => wy.cell? ⟨g, i * 5 + 4, none⟩ = some (.slice A (gp ys i).1.ac.length (gp ys i).2.2) ∧ wy.cell? ⟨X, 0, none⟩ = some (.string t))
    (first | exact HB1.out _ (by assumption) | exact HB1.out _ (Below.drew (by assumption)) | go_keep)
    ((go_at_call 50; refine (HFI.out _ (by first | assumption | exact Below.drew (by assumption))).mono ?_; rintro e w2 ⟨rfl, hb2⟩; have k2 : Below wx.heap.size wx w2 := bt (by first | assumption | exact Below.drew (by assumption)) hb2 (Nat.le_refl _)))
  have HO2 := Lib.hid (HO.out.below k2)
  clear q4 hx kd k0 hb2
  cases hh
  · have HE := Lib.hid (show (f (gp ys i).1).2 = 6 by rw [HF.out]; rfl)
    go_wp2_with fail
    go_ret
    exact do_err HE.out (by decide) k2 HB.out
  have HF2 := Lib.hid (show f (gp ys i).1 = (if (ga (gp ys i).1.ac J).us = 0 then ({ (gp ys i).1 with ac := (gp ys i).1.ac.take J ++ (gp ys i).1.ac.drop (J + 1) }, 0) else ((gp ys i).1, 20)) by rw [HF.out]; rfl)
  have hJl : J < (gp ys i).1.ac.length := by have := (HPH.out rfl).1; simpa [nas] using this
  have hrow := HO2.out.rows.own _ (gp_mem ys i hi)
  have hat := HO2.out.at.ac _ (gp_mem ys i hi)
  rw [← HAE.out] at hat
  have hrow : OwnL w2 w.heap.size 32 4 acc (.slice A (gp ys i).1.ac.length (gp ys i).2.2) (gp ys i).1.ac := by rw [HAE.out]; exact hrow
  obtain ⟨ga', cur, hga, _⟩ := OwnL.row hrow (by omega)
  have hsl : sl (gp ys i) = .slice A (gp ys i).1.ac.length (gp ys i).2.2 := by rw [HAE.out]; rfl
  obtain ⟨⟨q0, q1, q2, q3, q4⟩, hfz, hBg, hgl⟩ := mem_at HO2.out hi
  have f4 := hfz 4 (by omega)
  rw [← HAE.out] at q4
  subst hga
  obtain ⟨a0, a1, a2, a3⟩ := at_a' hat J hJl
  simp only [Nat.zero_add] at a0 a1 a2 a3
  have HROW := Lib.hid (show OwnL w2 w.heap.size 32 4 acc (.slice (some ⟨ga', 0, none⟩) (gp ys i).1.ac.length (gp ys i).2.2) (gp ys i).1.ac from hrow)
  have HSL := Lib.hid (show sl (gp ys i) = .slice (some ⟨ga', 0, none⟩) (gp ys i).1.ac.length (gp ys i).2.2 from hsl)
  clear hrow hat hfz hsl HF HPH HFI
  have j0 : (0 : Int) ≤ (J : Int) := by omega
  have j1 : (J : Int) < ((gp ys i).1.ac.length : Int) := by omega
  have hw1 : IntKind.i64.wrap ((J : Int) + 1) = (J : Int) + 1 := IntWalk.i64_in _ (by omega)
  by_cases hu : (ga (gp ys i).1.ac J).us = 0
  case neg =>
    have HE := Lib.hid (show (f (gp ys i).1).2 = 20 by rw [HF2.out, if_neg hu])
    have hu' : ((ga (gp ys i).1.ac J).us != 0) = true := by simpa using hu
    go_wp2_with fail
    go_ret
    exact do_err HE.out (by decide) k2 HB.out
  case pos =>
    have HE := Lib.hid (show f (gp ys i).1 = ({ (gp ys i).1 with ac := (gp ys i).1.ac.take J ++ (gp ys i).1.ac.drop (J + 1) }, 0) by rw [HF2.out, if_pos hu])
    have HDL := Lib.hid (delete_acc ga' (gp ys i).2.2 J w.heap.size (gp ys i).1.ac w2 hJl (by omega) HROW.out)
    go_wp2_with fail
    refine HDL.out.mono ?_
    rintro e w3 ⟨rfl, ho3, hg3⟩
    have hl3 : ((gp ys i).1.ac.take J ++ (gp ys i).1.ac.drop (J + 1)).length = (gp ys i).1.ac.length - 1 := by rw [List.length_append, List.length_take, List.length_drop]; omega
    have HN := Lib.hid (new_row HO2.out hi ((gp ys i).1.ac.take J ++ (gp ys i).1.ac.drop (J + 1)) (some ⟨ga', 0, none⟩) (gp ys i).2.2 (by rw [HSL.out]; exact hg3) (by rw [hl3]; exact ho3) (fun b hb => .inl (by rw [HSL.out]; exact hb)))
    rw [hl3] at HN
    have hms := own_kept HO2.out.ms (by exact hg3) (own_ne2 HO2.out.ms HROW.out (by decide))
    obtain ⟨z4, zf⟩ := cell4_of hms hi
    have c4 := k2.mono HB.out
    clear hg3 ho3 hms q0 q1 q2 q3 q4 a0 a1 a2 a3 f4
    go_wp2_with fail
    go_ret
    exact do_ok _ HE.out rfl (c4.trans HN.out.2.2) (fun b cs hc => HN.out.2.1 b cs (blk_keep hc k2)) HN.out.1
end Go.Proofs.Ytoemjpfoddeinaa.Mb
