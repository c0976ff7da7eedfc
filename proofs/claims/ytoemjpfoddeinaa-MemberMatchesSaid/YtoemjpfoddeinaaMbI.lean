/-
  Member: the walk of the function that Move hands to change.
-/
import Derived.Test.YtoemjpfoddeinaaMbH
namespace Go.Proofs.Ytoemjpfoddeinaa.Mb
open Go.RowKit Go.Proofs.Ytoemjpfoddeinaa Go.Proofs.Ytoemjpfoddeinaa.Ls Go.Proofs.Ytoemjpfoddeinaa.Kb
open Go.Proofs.Ytoemjpfoddeinaa.Nm hiding ret_bool ret_int

set_option maxRecDepth 100000 in
set_option maxHeartbeats 4000000 in
theorem do_move (fr tt : ByteArray) (n : Int) (X Y Z : Nat) (w : World) (hX : w.cell? ⟨X, 0, none⟩ = some (.string fr)) (hY : w.cell? ⟨Y, 0, none⟩ = some (.string tt)) (hZ : w.cell? ⟨Z, 0, none⟩ = some (.int .i64 n)) (g cap i : Nat) (ys : List P) (wx : World) (hi : i < ys.length) (hv : val (gp ys i).1 = true) (hO : OwnM wx w.heap.size (some ⟨g, 0, none⟩) cap ys) (hb : Below w.heap.size w wx) :
    Calls Try.prog 59 #[.pointer (some ⟨g, i * 5, none⟩), .pointer (some ⟨X, 0, none⟩), .pointer (some ⟨Y, 0, none⟩), .pointer (some ⟨Z, 0, none⟩)] wx (DoPost (fMove fr tt n) w.heap.size g cap i ys wx) := by
  obtain ⟨A, hA⟩ : ∃ A, A = (gp ys i).2.1 := ⟨_, rfl⟩
  have hx := keep hX hb
  have hy := keep hY hb
  have hz := keep hZ hb
  have HM := Lib.hid (fun wy (h : Below wx.heap.size wx wy) => mem_at (hO.below h) hi)
  have HO := Lib.hid hO
  have HB := Lib.hid hb.size
  obtain ⟨hs, hl16, hoka⟩ := val_parts hv
  have HOKA := Lib.hid hoka
  have HFI := Lib.hid (fun t wy (h : Below wx.heap.size wx wy) => finda A (gp ys i).2.2 (gp ys i).1.ac t wy (by omega) (by rw [hA]; exact (hO.below h).at.ac _ (gp_mem ys i hi)) hs)
  obtain ⟨f, hf⟩ : ∃ f, f = fMove fr tt n := ⟨_, rfl⟩
  have HF : Hid (f (gp ys i).1 = (if has (nas (gp ys i).1.ac) fr && has (nas (gp ys i).1.ac) tt then (if !decide (fr = tt) && sig n then (if (gp ys i).1.su && decide (ex (gp ys i).1.ac < ex (mvL (gp ys i).1 fr tt n)) then ((gp ys i).1, 20) else (wac (gp ys i).1 (mvL (gp ys i).1 fr tt n), 0)) else ((gp ys i).1, 2)) else ((gp ys i).1, 6))) := by rw [hf]; rfl
  rw [← hf]
  have HF1 := Lib.hid (HFI.out fr)
  have HF2 := Lib.hid (HFI.out tt)
  obtain ⟨h1, hh1⟩ : ∃ h1, h1 = has (nas (gp ys i).1.ac) fr := ⟨_, rfl⟩
  obtain ⟨h2, hh2⟩ : ∃ h2, h2 = has (nas (gp ys i).1.ac) tt := ⟨_, rfl⟩
  obtain ⟨J, hJ⟩ : ∃ J, J = pos (nas (gp ys i).1.ac) fr := ⟨_, rfl⟩
  obtain ⟨K, hK⟩ : ∃ K, K = pos (nas (gp ys i).1.ac) tt := ⟨_, rfl⟩
  have HP1 := Lib.hid (pos_has (nas (gp ys i).1.ac) fr hs)
  have HP2 := Lib.hid (pos_has (nas (gp ys i).1.ac) tt hs)
  have HML := Lib.hid (show mvL (gp ys i).1 fr tt n = addU (addU (gp ys i).1.ac J (-n)) K n by rw [hJ, hK]; rfl)
  rw [← hh1, ← hJ] at HF1 HP1
  rw [← hh2, ← hK] at HF2 HP2
  rw [← hh1, ← hh2, HML.out] at HF
  have HB1 := Lib.hid (show ∀ wy, Below wx.heap.size wx wy → wy.cell? ⟨g, i * 5 + 4, none⟩ = some (.slice A (gp ys i).1.ac.length (gp ys i).2.2) ∧ wy.cell? ⟨X, 0, none⟩ = some (.string fr) ∧ wy.cell? ⟨Y, 0, none⟩ = some (.string tt) ∧ wy.cell? ⟨Z, 0, none⟩ = some (.int .i64 n) from fun wy h => ⟨by rw [hA]; exact (HM.out wy h).1.2.2.2.2, keep hx h, keep hy h, keep hz h⟩)
  have HAE := Lib.hid hA
  have HXW := Lib.hid (show X < w.heap.size ∧ Y < w.heap.size ∧ Z < w.heap.size from ⟨World.block_lt_of_cell? _ _ hX, World.block_lt_of_cell? _ _ hY, World.block_lt_of_cell? _ _ hZ⟩)
  clear hh1 hh2 hJ hK hf hO hb hX hY hZ hs hA hx hy hz HFI hoka
  have k0 : Below wx.heap.size wx wx := Below.refl _ _
  have kd := k0.drew
  obtain ⟨q4, x0, y0, _⟩ := HB1.out wx k0
  go_enter Try.func59, Try.ntmps59
  go_wp2_with fail
  go_region_held3 (fun wy => wy.cell? ⟨g, i * 5 + 4, none⟩ = some (.slice A (gp ys i).1.ac.length (gp ys i).2.2) ∧ wy.cell? ⟨X, 0, none⟩ = some (.string fr) ∧ wy.cell? ⟨Y, 0, none⟩ = some (.string tt) ∧ wy.cell? ⟨Z, 0, none⟩ = some (.int .i64 n))
    (first | exact HB1.out _ (by assumption) | exact HB1.out _ (Below.drew (by assumption)) | go_keep)
    ((go_at_call 50; refine (HF1.out _ (by first | assumption | exact Below.drew (by assumption))).mono ?_; rintro e w2 ⟨rfl, hb2⟩; have k2 : Below wx.heap.size wx w2 := bt (by first | assumption | exact Below.drew (by assumption)) hb2 (Nat.le_refl _)))
  clear q4 x0 y0 kd k0 hb2
  have kd := k2.drew
  obtain ⟨q4, x0, y0, _⟩ := HB1.out w2 k2
  go_wp2_with fail
  go_region_held3 (fun wy => wy.cell? ⟨g, i * 5 + 4, none⟩ = some (.slice A (gp ys i).1.ac.length (gp ys i).2.2) ∧ wy.cell? ⟨X, 0, none⟩ = some (.string fr) ∧ wy.cell? ⟨Y, 0, none⟩ = some (.string tt) ∧ wy.cell? ⟨Z, 0, none⟩ = some (.int .i64 n))
    (first | exact HB1.out _ (by assumption) | exact HB1.out _ (Below.drew (by assumption)) | go_keep)
    ((go_at_call 50; refine (HF2.out _ (by first | assumption | exact Below.drew (by assumption))).mono ?_; rintro e w3 ⟨rfl, hb3⟩; have k3 : Below wx.heap.size wx w3 := bt (by first | assumption | exact Below.drew (by assumption)) hb3 (Nat.le_refl _)))
  have HO3 := Lib.hid (HO.out.below k3)
  clear q4 x0 y0 kd k2 hb3 HF1 HF2
  rcases Kb.hb (h1 && h2) with e1 | e1
  case inr =>
    have HE := Lib.hid (show (f (gp ys i).1).2 = 6 by rw [HF.out, e1]; rfl)
    cases h1
    all_goals cases h2
    all_goals try (exact absurd e1 (by decide))
    all_goals
      go_wp2_with fail
      go_ret
      exact do_err HE.out (by decide) k3 HB.out
  have HF3 := Lib.hid (show f (gp ys i).1 = (if !decide (fr = tt) && sig n then (if (gp ys i).1.su && decide (ex (gp ys i).1.ac < ex (addU (addU (gp ys i).1.ac J (-n)) K n)) then ((gp ys i).1, 20) else (wac (gp ys i).1 (addU (addU (gp ys i).1.ac J (-n)) K n), 0)) else ((gp ys i).1, 2)) by rw [HF.out, e1]; rfl)
  simp only [Bool.and_eq_true] at e1
  obtain ⟨rfl, rfl⟩ := e1
  have hJl : J < (gp ys i).1.ac.length := by have := (HP1.out rfl).1; simpa [nas] using this
  have hKl : K < (gp ys i).1.ac.length := by have := (HP2.out rfl).1; simpa [nas] using this
  clear HF HP1 HP2
  obtain ⟨q4, x3, y3, z3⟩ := HB1.out w3 k3
  by_cases e2 : fr = tt
  case pos =>
    have HE := Lib.hid (show (f (gp ys i).1).2 = 2 by rw [HF3.out, decide_eq_true e2]; rfl)
    have e2' := eq_yes e2
    have e2'' : fr.toList = tt.toList := by rw [e2]
    clear e2
    go_wp2_with fail
    go_ret
    exact do_err HE.out (by decide) k3 HB.out
  have e2' := eq_no e2
  rcases Kb.hb (sig n) with e3 | e3
  case inr =>
    have HE := Lib.hid (show (f (gp ys i).1).2 = 2 by rw [HF3.out, decide_eq_false e2, e3]; rfl)
    clear e2
    go_wp2_with fail
    refine (signed_any n _).mono ?_
    rintro e w4 ⟨rfl, rfl⟩
    rw [e3]
    go_wp2_with fail
    go_ret
    exact do_err HE.out (by decide) k3 HB.out
  have HF4 := Lib.hid (show f (gp ys i).1 = (if (gp ys i).1.su && decide (ex (gp ys i).1.ac < ex (addU (addU (gp ys i).1.ac J (-n)) K n)) then ((gp ys i).1, 20) else (wac (gp ys i).1 (addU (addU (gp ys i).1.ac J (-n)) K n), 0)) by rw [HF3.out, decide_eq_false e2, e3]; rfl)
  have hnb : -1125899906842624 ≤ n ∧ n ≤ 1125899906842624 := by unfold sig at e3; simp at e3; omega
  clear HF3 e2
  have hU0 : ∀ y ∈ (gp ys i).1.ac, -1125899906842624 ≤ y.us ∧ y.us ≤ 1125899906842624 := fun y hy => (okA_bound (HOKA.out y hy)).2
  have hU1 := addU_bound (d := 1125899906842624) (n := -n) J hJl hU0 (by omega)
  have hU2 := addU_bound (d := 1125899906842624) (n := n) K (by rw [addU_len]; exact hKl) hU1 hnb
  have hEX := fun wy (h : Below w3.heap.size w3 wy) => exposure_any (gp ys i) wy (by omega) ((HO3.out.below h).at.ac _ (gp_mem ys i hi)) (fun y hy => by have := hU0 y hy; omega)
  rw [← HAE.out] at hEX
  have HEX := Lib.hid hEX
  clear hEX
  obtain ⟨⟨m0, m1, m2, m3, _⟩, _, _, _⟩ := mem_at HO3.out hi
  go_wp2_with fail
  refine (signed_any n _).mono ?_
  rintro e w4 ⟨rfl, rfl⟩
  rw [e3]
  go_wp2_with fail
  refine (HEX.out _ (Below.refl _ _)).mono ?_
  rintro e w4 ⟨rfl, hb4⟩
  have k4 := bt k3 hb4 (Nat.le_refl _)
  have HO4 := Lib.hid (HO3.out.below hb4)
  have hrow : OwnL w4 w.heap.size 32 4 acc (.slice A (gp ys i).1.ac.length (gp ys i).2.2) (gp ys i).1.ac := by rw [HAE.out]; exact HO4.out.rows.own _ (gp_mem ys i hi)
  obtain ⟨ga', cur, hga, _⟩ := OwnL.row hrow (by omega)
  subst hga
  have HGA := Lib.hid HAE.out.symm
  obtain ⟨a3, af, hBa, hal⟩ := acc_cells HO4.out hi HGA.out J hJl
  have hbj := hU0 _ (ga_mem _ J hJl)
  have hw1 : IntKind.i64.wrap ((ga (gp ys i).1.ac J).us - n) = (ga (gp ys i).1.ac J).us - n := IntWalk.i64_in _ (by omega)
  have HT1 := Lib.hid (fun wy (h : Below w4.heap.size w4 wy) => put_two (HO4.out.below h) hi HGA.out J hJl (-n))
  obtain ⟨q4', _, _, z4⟩ := HB1.out w4 k4
  have j0 : (0 : Int) ≤ (J : Int) := by omega
  have j1 : (J : Int) < ((gp ys i).1.ac.length : Int) := by omega
  have i0 : (0 : Int) ≤ (K : Int) := by omega
  have i1 : (K : Int) < ((gp ys i).1.ac.length : Int) := by omega
  have HU0 := Lib.hid hU0
  have HU1 := Lib.hid hU1
  have HU2 := Lib.hid hU2
  clear hrow hb4 hU0 hU1 hU2 m0 m1 m2 m3 q4 x3 y3 z3
  go_wp2_with fail
  go_region
  all_goals
    generalize hw5 : World.setCell _ _ _ = w5
    have H5 := Lib.hid (show OwnM w5 w.heap.size (some ⟨g, 0, none⟩) cap (ys.set i (wac (gp ys i).1 (addU (gp ys i).1.ac J (-n)), (gp ys i).2)) ∧
      (∀ (b : Nat) (cs : Array Value), w4.heap[b]? = some (.cells cs 24 (0, 0)) → w5.heap[b]? = some (.cells cs 24 (0, 0))) ∧ Below w.heap.size w4 w5 by
      rw [← hw5]
      exact HT1.out _ (Below.refl _ _))
    clear hw5
    have hgy : gp (ys.set i (wac (gp ys i).1 (addU (gp ys i).1.ac J (-n)), (gp ys i).2)) i = (wac (gp ys i).1 (addU (gp ys i).1.ac J (-n)), (gp ys i).2) := gp_set _ _ _ hi
    have hi1 : i < (ys.set i (wac (gp ys i).1 (addU (gp ys i).1.ac J (-n)), (gp ys i).2)).length := by rw [List.length_set]; exact hi
    have hl1 : (addU (gp ys i).1.ac J (-n)).length = (gp ys i).1.ac.length := addU_len _ _ _
    obtain ⟨⟨_, _, _, _, m4⟩, _, _, _⟩ := mem_at H5.out.1 hi1
    rw [hgy] at m4
    have m4' : w5.cell? ⟨g, i * 5 + 4, none⟩ = some (.slice (some ⟨ga', 0, none⟩) (gp ys i).1.ac.length (gp ys i).2.2) := by
      rw [m4, ← HGA.out, ← hl1]
      rfl
    have hK1 : K < (gp (ys.set i (wac (gp ys i).1 (addU (gp ys i).1.ac J (-n)), (gp ys i).2)) i).1.ac.length := by rw [hgy]; show K < (addU (gp ys i).1.ac J (-n)).length; omega
    have hs1 : (gp (ys.set i (wac (gp ys i).1 (addU (gp ys i).1.ac J (-n)), (gp ys i).2)) i).2.1 = some ⟨ga', 0, none⟩ := by rw [hgy]; exact HGA.out
    obtain ⟨a5, af5, _, _⟩ := acc_cells H5.out.1 hi1 hs1 K hK1
    have HT2 := Lib.hid (fun wy (h : Below w5.heap.size w5 wy) => put_two (H5.out.1.below h) hi1 hs1 K hK1 n)
    rw [hgy] at a5 HT2
    change w5.cell? _ = some (.int .i64 (ga (addU (gp ys i).1.ac J (-n)) K).us) at a5
    have hbk := HU1.out _ (ga_mem (addU (gp ys i).1.ac J (-n)) K (by omega))
    have hw2 : IntKind.i64.wrap ((ga (addU (gp ys i).1.ac J (-n)) K).us + n) = (ga (addU (gp ys i).1.ac J (-n)) K).us + n := IntWalk.i64_in _ (by omega)
    have z5 := (H5.out.2.2.cell HXW.out.2.2).trans z4
    clear q4' z4 m4 a3 af hw1
    go_wp2_with fail
    go_region
    all_goals
      generalize hw6 : World.setCell _ _ _ = w6
      have H6 := Lib.hid (show OwnM w6 w.heap.size (some ⟨g, 0, none⟩) cap (ys.set i (wac (gp ys i).1 (addU (addU (gp ys i).1.ac J (-n)) K n), (gp ys i).2)) ∧
        (∀ (b : Nat) (cs : Array Value), w5.heap[b]? = some (.cells cs 24 (0, 0)) → w6.heap[b]? = some (.cells cs 24 (0, 0))) ∧ Below w.heap.size w5 w6 by
        rw [← hw6]
        have h := HT2.out _ (Below.refl _ _)
        rw [List.set_set] at h
        exact h)
      clear hw6
      obtain ⟨y2, hy2⟩ : ∃ y2 : P, y2 = (wac (gp ys i).1 (addU (addU (gp ys i).1.ac J (-n)) K n), (gp ys i).2) := ⟨_, rfl⟩
      rw [← hy2] at H6
      have hgy2 : gp (ys.set i y2) i = y2 := gp_set _ _ _ hi
      have hi2 : i < (ys.set i y2).length := by rw [List.length_set]; exact hi
      obtain ⟨⟨n0, n1, n2, n3, n4⟩, _, _, _⟩ := mem_at H6.out.1 hi2
      rw [hgy2] at n0 n1 n2 n3 n4
      have hl2 : y2.1.ac.length = (gp ys i).1.ac.length := by rw [hy2]; show (addU (addU (gp ys i).1.ac J (-n)) K n).length = _; rw [addU_len, addU_len]
      have HEX2 := Lib.hid (exposure_any y2 w6.drew.drew (by omega) (by have := H6.out.1.at.ac _ (gp_mem _ i hi2); rw [hgy2] at this; exact this) (fun y hy => by have := HU2.out y (by rw [hy2] at hy; exact hy); omega))
      obtain ⟨su, hsu⟩ : ∃ su, su = (gp ys i).1.su := ⟨_, rfl⟩
      have hsu2 : y2.1.su = su := by rw [hy2, hsu]; rfl
      have HF5 := Lib.hid (show f (gp ys i).1 = (if su && decide (ex (gp ys i).1.ac < ex y2.1.ac) then ((gp ys i).1, 20) else (y2.1, 0)) by rw [HF4.out, hsu, hy2]; rfl)
      have c6 : Below w.heap.size wx w6 := ((k4.mono HB.out).trans H5.out.2.2).trans H6.out.2.2
      have hbx : ∀ (b : Nat) (cs : Array Value), wx.heap[b]? = some (.cells cs 24 (0, 0)) → w6.heap[b]? = some (.cells cs 24 (0, 0)) := fun b cs hc => H6.out.2.1 b cs (H5.out.2.1 b cs (blk_keep hc k4))
      have HBX := Lib.hid hbx
      rw [hsu2] at n2 HEX2
      generalize hxo : ex (gp ys i).1.ac = xo at HF5 ⊢
      generalize hxn : ex y2.1.ac = xn at HF5 HEX2
      clear hxo hxn hbx hgy2 hl2 hy2 hsu hsu2 HF4 HT1 HT2 HU0 HU1 HU2 a5 af5 z5 hw2 hgy hl1 m4' HEX
      cases su
      · have HE := Lib.hid (show f (gp ys i).1 = (y2.1, 0) by rw [HF5.out]; rfl)
        go_wp2_with fail
        go_ret
        exact do_ok y2 HE.out rfl c6.drew.drew HBX.out (H6.out.1.below (Below.refl _ _).drew.drew)
      · by_cases hcmp : xo < xn
        · have HE := Lib.hid (show (f (gp ys i).1).2 = 20 by rw [HF5.out, decide_eq_true hcmp]; rfl)
          go_wp2_with fail
          refine HEX2.out.mono ?_
          rintro e w7 ⟨rfl, hb7⟩
          go_wp2_with fail
          go_ret
          exact do_err2 HE.out (by decide) (c6.drew.drew.trans (hb7.mono (Nat.le_trans HB.out c6.size))) (fun b cs hc => blk_keep (w := w6.drew.drew) (HBX.out b cs hc) hb7)
        · have HE := Lib.hid (show f (gp ys i).1 = (y2.1, 0) by rw [HF5.out, decide_eq_false hcmp]; rfl)
          go_wp2_with fail
          refine HEX2.out.mono ?_
          rintro e w7 ⟨rfl, hb7⟩
          go_wp2_with fail
          go_ret
          exact do_ok y2 HE.out rfl (c6.drew.drew.trans (hb7.mono (Nat.le_trans HB.out c6.size))) (fun b cs hc => blk_keep (w := w6.drew.drew) (HBX.out b cs hc) hb7) ((H6.out.1.below (Below.refl _ _).drew.drew).below hb7)
end Go.Proofs.Ytoemjpfoddeinaa.Mb
