/-
  Member: the walk of the function that Open hands to change.
-/
import Derived.Test.YtoemjpfoddeinaaMbF
import Derived.Deep.RegionLaw
namespace Go.Proofs.Ytoemjpfoddeinaa.Mb
open Go.RowKit Go.Proofs.Ytoemjpfoddeinaa Go.Proofs.Ytoemjpfoddeinaa.Ls Go.Proofs.Ytoemjpfoddeinaa.Kb
open Go.Proofs.Ytoemjpfoddeinaa.Nm hiding ret_bool ret_int

def wac (m : Me) (l : List Ac) : Me := { m with ac := l }
theorem cell_put {w : World} {b o g q : Nat} {u v : Value} (h : w.cell? ⟨b, o, none⟩ = some u) (hne : b ≠ g) : (w.setCell ⟨g, q, none⟩ v).cell? ⟨b, o, none⟩ = some u := by
  rw [← h]
  exact World.cell?_of_block (by simp [World.setCell, Array.getElem?_modify, Ne.symm hne])
theorem new_row2 {w wy w' : World} {B g cap i n : Nat} {ys : List P} (h : OwnM w B (some ⟨g, 0, none⟩) cap ys) (hi : i < ys.length) (l : List Ac) (a : Option Addr) (c : Nat) (hl : l.length = n)
    (hg : wy.grownBy w' (sl (gp ys i)).ownBlock) (hy : OwnL w' B 32 4 acc (.slice a n c) l) (hfr : ∀ b, (Value.slice a n c).ownBlock = some b → (sl (gp ys i)).ownBlock = some b ∨ wy.heap.size ≤ b) (hk : Below w.heap.size w wy) :
    (w'.cell? ⟨g, i * 5 + 4, none⟩ = some (.slice (gp ys i).2.1 (gp ys i).1.ac.length (gp ys i).2.2) ∧ w'.frozen? ⟨g, i * 5 + 4, none⟩ = false) ∧
    OwnM (w'.setCell ⟨g, i * 5 + 4, none⟩ (.slice a n c)) B (some ⟨g, 0, none⟩) cap (ys.set i (({ (gp ys i).1 with ac := l } : Me), (a, c))) ∧
    (∀ (b : Nat) (cs : Array Value), w.heap[b]? = some (.cells cs 24 (0, 0)) → (w'.setCell ⟨g, i * 5 + 4, none⟩ (.slice a n c)).heap[b]? = some (.cells cs 24 (0, 0))) ∧
    Below B w (w'.setCell ⟨g, i * 5 + 4, none⟩ (.slice a n c)) := by
  subst hl
  have h' := h.below hk
  obtain ⟨h1, h2, h3⟩ := new_row h' hi l a c hg hy hfr
  have hms := own_kept h'.ms hg (own_ne2 h'.ms (h'.rows.own _ (gp_mem ys i hi)) (by decide))
  obtain ⟨cur, hBg, hgg, _⟩ := h.ms.row'
  exact ⟨cell4_of hms hi, h1, fun b cs hc => h2 b cs (blk_keep hc hk), (hk.mono (Nat.le_trans hBg (Nat.le_of_lt (blk_lt hgg)))).trans h3⟩

set_option maxRecDepth 100000 in
set_option maxHeartbeats 4000000 in
theorem do_open (t : ByteArray) (cl : Bool) (n : Int) (X Y Z : Nat) (w : World) (hX : w.cell? ⟨X, 0, none⟩ = some (.string t)) (hY : w.cell? ⟨Y, 0, none⟩ = some (.bool cl)) (hZ : w.cell? ⟨Z, 0, none⟩ = some (.int .i64 n)) (htn : t.size ≤ maxLen) (g cap i : Nat) (ys : List P) (wx : World) (hi : i < ys.length) (_hZ : OkM (gp ys i).1) (hv : val (gp ys i).1 = true) (hO : OwnM wx w.heap.size (some ⟨g, 0, none⟩) cap ys) (hb : Below w.heap.size w wx) :
    Calls Try.prog 49 #[.pointer (some ⟨g, i * 5, none⟩), .pointer (some ⟨X, 0, none⟩), .pointer (some ⟨Y, 0, none⟩), .pointer (some ⟨Z, 0, none⟩)] wx (DoPost (fOpen t cl n) w.heap.size g cap i ys wx) := by
  obtain ⟨A, hA⟩ : ∃ A, A = (gp ys i).2.1 := ⟨_, rfl⟩
  have hx := keep hX hb
  have hy := keep hY hb
  have hz := keep hZ hb
  have HM := Lib.hid (fun wy (h : Below wx.heap.size wx wy) => mem_at (hO.below h) hi)
  have HO := Lib.hid hO
  have HB := Lib.hid hb.size
  have hbase := hb.size
  obtain ⟨hs, hl16, _⟩ := val_parts hv
  have HFI := Lib.hid (fun wy (h : Below wx.heap.size wx wy) => finda A (gp ys i).2.2 (gp ys i).1.ac t wy (by omega) (by rw [hA]; exact (hO.below h).at.ac _ (gp_mem ys i hi)) hs)
  obtain ⟨f, hf⟩ : ∃ f, f = fOpen t cl n := ⟨_, rfl⟩
  have HF : Hid (f (gp ys i).1 = (if (gp ys i).1.su then ((gp ys i).1, 20) else if !nm t || (cl && ((gp ys i).1.ro == 2)) || !mon n then ((gp ys i).1, 2) else if has (nas (gp ys i).1.ac) t then ((gp ys i).1, 24) else if (gp ys i).1.ac.length = 16 then ((gp ys i).1, 22)
    else (wac (gp ys i).1 ((gp ys i).1.ac.take (pos (nas (gp ys i).1.ac) t) ++ ⟨t, cl, n, 0⟩ :: (gp ys i).1.ac.drop (pos (nas (gp ys i).1.ac) t)), 0))) := by rw [hf]; rfl
  have HPH := Lib.hid (pos_le (nas (gp ys i).1.ac) t)
  rw [← hf]
  obtain ⟨hh, hhh⟩ : ∃ hh, hh = has (nas (gp ys i).1.ac) t := ⟨_, rfl⟩
  obtain ⟨J, hJ⟩ : ∃ J, J = pos (nas (gp ys i).1.ac) t := ⟨_, rfl⟩
  rw [← hhh, ← hJ] at HFI HF
  rw [← hJ] at HPH
  have hJl : J ≤ (gp ys i).1.ac.length := by have := HPH.out; simpa [nas] using this
  have HB1 := Lib.hid (show ∀ wy, Below wx.heap.size wx wy → wy.cell? ⟨g, i * 5 + 4, none⟩ = some (.slice A (gp ys i).1.ac.length (gp ys i).2.2) ∧ wy.cell? ⟨X, 0, none⟩ = some (.string t) from fun wy h => ⟨by rw [hA]; exact (HM.out wy h).1.2.2.2.2, keep hx h⟩)
  have HAE := Lib.hid hA
  have HXW := Lib.hid (show X < w.heap.size ∧ Y < w.heap.size ∧ Z < w.heap.size from ⟨World.block_lt_of_cell? _ _ hX, World.block_lt_of_cell? _ _ hY, World.block_lt_of_cell? _ _ hZ⟩)
  have HYK := Lib.hid (show ∀ wy, Below wx.heap.size wx wy → wy.cell? ⟨Y, 0, none⟩ = some (.bool cl) ∧ wy.cell? ⟨Z, 0, none⟩ = some (.int .i64 n) ∧ wy.cell? ⟨X, 0, none⟩ = some (.string t) from fun wy h => ⟨keep hy h, keep hz h, keep hx h⟩)
  clear hhh hJ hf hO hb hX hs hA hY hy hZ hz HPH
  have k0 : Below wx.heap.size wx wx := Below.refl _ _
  have kd := k0.drew
  obtain ⟨q4, _⟩ := HB1.out wx k0
  go_enter Try.func49, Try.ntmps49
  go_wp2_with fail
  go_region_held3 (fun wy => wy.cell? ⟨g, i * 5 + 4, none⟩ = some (.slice A (gp ys i).1.ac.length (gp ys i).2.2) ∧ wy.cell? ⟨X, 0, none⟩ = some (.string t))
    (first | exact HB1.out _ (by assumption) | exact HB1.out _ (Below.drew (by assumption)) | go_keep)
    ((go_at_call 50; refine (HFI.out _ (by first | assumption | exact Below.drew (by assumption))).mono ?_; rintro e w2 ⟨rfl, hb2⟩; have k2 : Below wx.heap.size wx w2 := bt (by first | assumption | exact Below.drew (by assumption)) hb2 (Nat.le_refl _)))
  have HO2 := Lib.hid (HO.out.below k2)
  clear q4 hx kd k0 hb2
  obtain ⟨⟨q0, q1, q2, q3, q4⟩, hfz, hBg, hgl⟩ := mem_at HO2.out hi
  have f4 := hfz 4 (by omega)
  rw [← HAE.out] at q4
  obtain ⟨y2, z2, x2⟩ := HYK.out w2 k2
  have HSL := Lib.hid (show sl (gp ys i) = .slice A (gp ys i).1.ac.length (gp ys i).2.2 by rw [HAE.out]; rfl)
  have HROW := Lib.hid (show OwnL w2 w.heap.size 32 4 acc (.slice A (gp ys i).1.ac.length (gp ys i).2.2) (gp ys i).1.ac by rw [HAE.out]; exact HO2.out.rows.own _ (gp_mem ys i hi))
  obtain ⟨su, hsu⟩ : ∃ su, su = (gp ys i).1.su := ⟨_, rfl⟩
  obtain ⟨b2, hb2⟩ : ∃ b2, b2 = ((gp ys i).1.ro == 2) := ⟨_, rfl⟩
  rw [← hsu] at q2 HF
  rw [← hb2] at HF
  have r2 := hb2.symm
  clear hsu hb2 hfz
  have j0 : (0 : Int) ≤ (J : Int) := by omega
  cases su
  case true =>
    have HE := Lib.hid (show (f (gp ys i).1).2 = 20 by rw [HF.out]; rfl)
    go_wp2_with fail
    go_ret
    exact do_err HE.out (by decide) k2 HB.out
  have HF2 := Lib.hid (show f (gp ys i).1 = (if !nm t || (cl && b2) || !mon n then ((gp ys i).1, 2) else if hh then ((gp ys i).1, 24) else if (gp ys i).1.ac.length = 16 then ((gp ys i).1, 22)
    else (wac (gp ys i).1 ((gp ys i).1.ac.take J ++ ⟨t, cl, n, 0⟩ :: (gp ys i).1.ac.drop J), 0)) by rw [HF.out]; rfl)
  clear HF
  rcases Kb.hb (nm t) with h1 | h1
  case inr =>
    have HE := Lib.hid (show (f (gp ys i).1).2 = 2 by rw [HF2.out, h1]; rfl)
    go_wp2_with fail
    refine (name_q t _ htn).mono ?_
    rintro e w3 ⟨rfl, rfl⟩
    rw [h1]
    go_wp2_with fail
    go_ret
    exact do_err HE.out (by decide) k2 HB.out
  rcases Kb.hb (cl && b2) with h2 | h2
  case inl =>
    have HE := Lib.hid (show (f (gp ys i).1).2 = 2 by rw [HF2.out, h1, h2]; rfl)
    simp only [Bool.and_eq_true] at h2
    obtain ⟨rfl, rfl⟩ := h2
    go_wp2_with fail
    refine (name_q t _ htn).mono ?_
    rintro e w3 ⟨rfl, rfl⟩
    rw [h1]
    go_wp2_with fail
    go_ret
    exact do_err HE.out (by decide) k2 HB.out
  rcases Kb.hb (mon n) with h3 | h3
  case inr =>
    have HE := Lib.hid (show (f (gp ys i).1).2 = 2 by rw [HF2.out, h1, h2, h3]; rfl)
    cases cl
    all_goals cases b2
    all_goals try (exact absurd h2 (by decide))
    all_goals
      go_wp2_with fail
      refine (name_q t _ htn).mono ?_
      rintro e w3 ⟨rfl, rfl⟩
      rw [h1]
      go_wp2_with fail
      refine (money_any n _).mono ?_
      rintro e w3 ⟨rfl, rfl⟩
      rw [h3]
      go_wp2_with fail
      go_ret
      exact do_err HE.out (by decide) k2 HB.out
  have HF3 := Lib.hid (show f (gp ys i).1 = (if hh then ((gp ys i).1, 24) else if (gp ys i).1.ac.length = 16 then ((gp ys i).1, 22)
    else (wac (gp ys i).1 ((gp ys i).1.ac.take J ++ ⟨t, cl, n, 0⟩ :: (gp ys i).1.ac.drop J), 0)) by rw [HF2.out, h1, h2, h3]; rfl)
  clear HF2
  cases hh
  case true =>
    have HE := Lib.hid (show (f (gp ys i).1).2 = 24 by rw [HF3.out]; rfl)
    cases cl
    all_goals cases b2
    all_goals try (exact absurd h2 (by decide))
    all_goals
      go_wp2_with fail
      refine (name_q t _ htn).mono ?_
      rintro e w3 ⟨rfl, rfl⟩
      rw [h1]
      go_wp2_with fail
      refine (money_any n _).mono ?_
      rintro e w3 ⟨rfl, rfl⟩
      rw [h3]
      go_wp2_with fail
      go_ret
      exact do_err HE.out (by decide) k2 HB.out
  by_cases h4 : (gp ys i).1.ac.length = 16
  case pos =>
    have HE := Lib.hid (show (f (gp ys i).1).2 = 22 by rw [HF3.out, if_neg (by decide), if_pos h4])
    have h4' : (((gp ys i).1.ac.length : Int) == 16) = true := by rw [h4]; rfl
    cases cl
    all_goals cases b2
    all_goals try (exact absurd h2 (by decide))
    all_goals
      go_wp2_with fail
      refine (name_q t _ htn).mono ?_
      rintro e w3 ⟨rfl, rfl⟩
      rw [h1]
      go_wp2_with fail
      refine (money_any n _).mono ?_
      rintro e w3 ⟨rfl, rfl⟩
      rw [h3]
      go_wp2_with fail
      go_ret
      exact do_err HE.out (by decide) k2 HB.out
  have HE := Lib.hid (show f (gp ys i).1 = (wac (gp ys i).1 ((gp ys i).1.ac.take J ++ ⟨t, cl, n, 0⟩ :: (gp ys i).1.ac.drop J), 0) by rw [HF3.out, if_neg (by decide), if_neg h4])
  have h4' : (((gp ys i).1.ac.length : Int) == 16) = false := by simp; omega
  have hl3 : ((gp ys i).1.ac.take J ++ (⟨t, cl, n, 0⟩ : Ac) :: (gp ys i).1.ac.drop J).length = (gp ys i).1.ac.length + 1 := by rw [List.length_append, List.length_take, List.length_cons, List.length_drop]; omega
  have HL3 := Lib.hid hl3
  have hlt := HROW.out.lt
  have HIN := Lib.hid (fun wy (h : Below w2.heap.size w2 wy) (hX : wy.heap[w2.heap.size]? = some (.cells #[.string t, .bool cl, .int .i64 n, .int .i64 0] 32 (0, 0))) => insert_acc A J (gp ys i).2.2 w.heap.size w2.heap.size (gp ys i).1.ac ⟨t, cl, n, 0⟩ _ wy hJl (by omega) (by have := h.size; have := k2.size; omega) (HROW.out.below h) hX rfl (fun b hb => by have := (hlt b hb).2; omega))
  clear hlt HFI HF3 hl3
  have HYK2 := Lib.hid (show ∀ wy, Below w2.heap.size w2 wy → wy.cell? ⟨Y, 0, none⟩ = some (.bool cl) ∧ wy.cell? ⟨Z, 0, none⟩ = some (.int .i64 n) ∧ wy.cell? ⟨X, 0, none⟩ = some (.string t) from fun wy h => HYK.out wy (bt k2 h (Nat.le_refl _)))
  have hXl := World.block_lt_of_cell? _ _ x2
  have hxw : X < w.heap.size := HXW.out.1
  have hyw : Y < w.heap.size := HXW.out.2.1
  have hzw : Z < w.heap.size := HXW.out.2.2
  have hlt0 := HROW.out.lt
  have HFAR := Lib.hid (show ∀ wy w5, Below w2.heap.size w2 wy → wy.grownBy w5 (Value.slice A (gp ys i).1.ac.length (gp ys i).2.2).ownBlock → w5.cell? ⟨Y, 0, none⟩ = some (.bool cl) ∧ w5.cell? ⟨Z, 0, none⟩ = some (.int .i64 n) ∧ w5.cell? ⟨X, 0, none⟩ = some (.string t) from fun wy w5 h hg => by
    obtain ⟨h1, h2, h3⟩ := HYK2.out wy h
    exact ⟨far_cell hg h1 (fun e => by have := (hlt0 _ e).1; change _ ≤ Y at this; omega), far_cell hg h2 (fun e => by have := (hlt0 _ e).1; change _ ≤ Z at this; omega), far_cell hg h3 (fun e => by have := (hlt0 _ e).1; change _ ≤ X at this; omega)⟩)
  have HPUT := Lib.hid (show ∀ wy : World, (wy.cell? ⟨Y, 0, none⟩ = some (.bool cl) ∧ wy.cell? ⟨Z, 0, none⟩ = some (.int .i64 n) ∧ wy.cell? ⟨X, 0, none⟩ = some (.string t)) → ∀ v : Value, (wy.setCell ⟨g, i * 5 + 4, none⟩ v).cell? ⟨Y, 0, none⟩ = some (.bool cl) ∧ (wy.setCell ⟨g, i * 5 + 4, none⟩ v).cell? ⟨Z, 0, none⟩ = some (.int .i64 n) ∧ (wy.setCell ⟨g, i * 5 + 4, none⟩ v).cell? ⟨X, 0, none⟩ = some (.string t) from fun wy h v => ⟨cell_put h.1 (by omega), cell_put h.2.1 (by omega), cell_put h.2.2 (by omega)⟩)
  have k22 : Below w2.heap.size w2 w2 := Below.refl _ _
  have k2d := k22.drew
  clear hlt0
  cases cl
  all_goals cases b2
  all_goals try (exact absurd h2 (by decide))
  · go_wp2_with fail
    refine (name_q t _ htn).mono ?_
    rintro e w3 ⟨rfl, rfl⟩
    rw [h1]
    go_wp2_with fail
    refine (money_any n _).mono ?_
    rintro e w3 ⟨rfl, rfl⟩
    rw [h3]
    go_upto_region 10 with fail
    refine wp_region_noPanic ?_
    refine wp_region_held_drew (S := fun wy => wy.cell? ⟨Y, 0, none⟩ = some (.bool false) ∧ wy.cell? ⟨Z, 0, none⟩ = some (.int .i64 n) ∧ wy.cell? ⟨X, 0, none⟩ = some (.string t)) (by kernel_rfl) (HYK2.out _ k2d) (fun hHeld => ?_)
    refine wpAnyH_take (i := 0) (v := ?v0x1) rfl (by kernel_rfl) (by kernel_rfl) (by kernel_rfl) (fun _ _ _ h => h) (Or.inl ⟨by rfl, ?h0x1⟩) (by assumption) ?_
    case h0x1 =>
      intro wq hSw
      try dsimp only at hSw
      go_simp
      try with_reducible rfl
    try simp only [Act.put]
    try simp only [List.setIfInBounds_toArray]
    try simp only [List.set_cons_succ]
    try simp only [List.set_cons_zero]
    refine wpAnyH_take (i := 1) (v := ?v1x2) rfl (by kernel_rfl) (by kernel_rfl) (by kernel_rfl) (fun _ _ _ h => h) (Or.inl ⟨by rfl, ?h1x2⟩) (by assumption) ?_
    case h1x2 =>
      intro wq hSw
      try dsimp only at hSw
      go_simp
      try with_reducible rfl
    try simp only [Act.put]
    try simp only [List.setIfInBounds_toArray]
    try simp only [List.set_cons_succ]
    try simp only [List.set_cons_zero]
    refine wpAnyH_take (i := 2) (v := ?v2x3) rfl (by kernel_rfl) (by kernel_rfl) (by kernel_rfl) (fun _ _ _ h => h) (Or.inl ⟨by rfl, ?h2x3⟩) (by assumption) ?_
    case h2x3 =>
      intro wq hSw
      try dsimp only at hSw
      go_simp
      try with_reducible rfl
    try simp only [Act.put]
    try simp only [List.setIfInBounds_toArray]
    try simp only [List.set_cons_succ]
    try simp only [List.set_cons_zero]
    refine wpAnyH_take (i := 3) (v := ?v3x4) rfl (by kernel_rfl) (by kernel_rfl) (by kernel_rfl) (fun _ _ _ h => h) (Or.inl ⟨by rfl, ?h3x4⟩) (by assumption) ?_
    case h3x4 =>
      intro wq hSw
      try dsimp only at hSw
      go_simp
      try with_reducible rfl
    try simp only [Act.put]
    try simp only [List.setIfInBounds_toArray]
    try simp only [List.set_cons_succ]
    try simp only [List.set_cons_zero]
    refine wpAnyH_take (i := 5) (v := ?v5x5) rfl (by kernel_rfl) (by kernel_rfl) (by kernel_rfl) (fun _ _ _ h => h) (Or.inl ⟨by rfl, ?h5x5⟩) (by assumption) ?_
    case h5x5 =>
      intro wq hSw
      try dsimp only at hSw
      go_simp
      try with_reducible rfl
    try simp only [Act.put]
    try simp only [List.setIfInBounds_toArray]
    try simp only [List.set_cons_succ]
    try simp only [List.set_cons_zero]
    refine wpAnyH_take (i := 6) (v := ?v6x6) rfl (by kernel_rfl) (by kernel_rfl) (by kernel_rfl) (fun _ _ _ h => h) (Or.inl ⟨by rfl, ?h6x6⟩) (by assumption) ?_
    case h6x6 =>
      intro wq hSw
      try dsimp only at hSw
      go_simp
      try with_reducible rfl
    try simp only [Act.put]
    try simp only [List.setIfInBounds_toArray]
    try simp only [List.set_cons_succ]
    try simp only [List.set_cons_zero]
    refine wpAnyH_take (i := 7) (v := ?v7x7) rfl (by kernel_rfl) (by kernel_rfl) (by kernel_rfl) (fun _ _ _ h => h) (Or.inl ⟨by rfl, ?h7x7⟩) (by assumption) ?_
    case h7x7 =>
      intro wq hSw
      try dsimp only at hSw
      go_simp
      try with_reducible rfl
    try simp only [Act.put]
    try simp only [List.setIfInBounds_toArray]
    try simp only [List.set_cons_succ]
    try simp only [List.set_cons_zero]
    refine wpAnyH_take (i := 8) (v := ?v8x8) rfl (by kernel_rfl) (by kernel_rfl) (by kernel_rfl) (fun _ _ _ h => h) (Or.inl ⟨by rfl, ?h8x8⟩) (by assumption) ?_
    case h8x8 =>
      intro wq hSw
      try dsimp only at hSw
      go_simp
      try with_reducible rfl
    try simp only [Act.put]
    try simp only [List.setIfInBounds_toArray]
    try simp only [List.set_cons_succ]
    try simp only [List.set_cons_zero]
    refine wpAnyH_take (i := 9) (v := ?v9x9) rfl (by kernel_rfl) (by kernel_rfl) (by kernel_rfl) (fun _ _ _ h => h) (Or.inl ⟨by rfl, ?h9x9⟩) (by assumption) ?_
    case h9x9 =>
      intro wq hSw
      try dsimp only at hSw
      go_simp
      try with_reducible rfl
    try simp only [Act.put]
    try simp only [List.setIfInBounds_toArray]
    try simp only [List.set_cons_succ]
    try simp only [List.set_cons_zero]
    refine wpAnyH_ready (rs := [4, 10]) (by kernel_rfl) (by simp) ?_
    refine AllReadyH.cons rfl (fun K hK => ?_) (AllReadyH.cons rfl (fun K hK => ?_) AllReadyH.nil)
    · go_simp
      refine hK.out _ _ (HYK2.out _ k2d) (fun hHeld => ?_)
      clear hK K
      try simp only [Act.put]
      try simp only [List.setIfInBounds_toArray]
      try simp only [List.set_cons_succ]
      try simp only [List.set_cons_zero]
      refine wpAnyH_ready (rs := [10]) (by kernel_rfl) (by simp) ?_
      refine AllReadyH.cons rfl (fun K hK => ?_) AllReadyH.nil
      go_simp
      refine hK.out _ _ ((by first | exact HYK2.out _ (k22.alloc (Nat.le_refl _) _).drew | exact HYK2.out _ (k22.drew.alloc (Nat.le_refl _) _))) (fun hHeld => ?_)
      clear hK K
      try simp only [Act.put]
      try simp only [List.setIfInBounds_toArray]
      try simp only [List.set_cons_succ]
      try simp only [List.set_cons_zero]
      refine wpAnyH_ready (rs := [11]) (by kernel_rfl) (by simp) ?_
      refine AllReadyH.cons rfl (fun K hK => ?_) AllReadyH.nil
      go_simp
      go_at_call 53
      refine (HIN.out _ (by first | exact (Below.refl _ _).alloc (Nat.le_refl _) _ | exact ((Below.refl _ _).alloc (Nat.le_refl _) _).drew | exact (Below.refl _ _).drew.alloc (Nat.le_refl _) _) (by first | exact blk_new _ _ | exact blk_new w3 _)).mono ?_
      rintro e w5 ⟨a5, c5, rfl, ho5, hg5, hfr5⟩
      have HN := Lib.hid (new_row2 HO2.out hi _ a5 c5 HL3.out (by rw [HSL.out]; exact hg5) ho5 (by rw [HSL.out]; exact hfr5) (by first | exact (Below.refl _ _).alloc (Nat.le_refl _) _ | exact ((Below.refl _ _).alloc (Nat.le_refl _) _).drew | exact (Below.refl _ _).drew.alloc (Nat.le_refl _) _))
      obtain ⟨z4, zf⟩ := HN.out.1
      have HS5 := Lib.hid (HFAR.out _ w5 (by first | exact (Below.refl _ _).alloc (Nat.le_refl _) _ | exact ((Below.refl _ _).alloc (Nat.le_refl _) _).drew | exact (Below.refl _ _).drew.alloc (Nat.le_refl _) _) hg5)
      clear ho5 hg5 hfr5
      try go_simp
      refine hK.out _ _ (HS5.out) (fun hHeld => ?_)
      clear hK K
      try simp only [Act.put]
      try simp only [List.setIfInBounds_toArray]
      try simp only [List.set_cons_succ]
      try simp only [List.set_cons_zero]
      refine wpAnyH_take (i := 12) (v := ?v12x10) rfl (by kernel_rfl) (by kernel_rfl) (by kernel_rfl) (fun _ _ _ h => h) (Or.inl ⟨by rfl, ?h12x10⟩) (by assumption) ?_
      case h12x10 =>
        intro wq hSw
        try dsimp only at hSw
        go_simp
        try with_reducible rfl
      try simp only [Act.put]
      try simp only [List.setIfInBounds_toArray]
      try simp only [List.set_cons_succ]
      try simp only [List.set_cons_zero]
      refine wpAnyH_take (i := 13) (v := ?v13x11) rfl (by kernel_rfl) (by kernel_rfl) (by kernel_rfl) (fun _ _ _ h => h) (Or.inl ⟨by rfl, ?h13x11⟩) (by assumption) ?_
      case h13x11 =>
        intro wq hSw
        try dsimp only at hSw
        go_simp
        try with_reducible rfl
      try simp only [Act.put]
      try simp only [List.setIfInBounds_toArray]
      try simp only [List.set_cons_succ]
      try simp only [List.set_cons_zero]
      refine wpAnyH_ready (rs := [14]) (by kernel_rfl) (by simp) ?_
      refine AllReadyH.cons rfl (fun K hK => ?_) AllReadyH.nil
      go_simp
      refine hK.out _ _ (HPUT.out _ HS5.out _) (fun hHeld => ?_)
      clear hK K
      try simp only [Act.put]
      try simp only [List.setIfInBounds_toArray]
      try simp only [List.set_cons_succ]
      try simp only [List.set_cons_zero]
      refine wpAnyH_done (by kernel_rfl) ?_ _
      refine NoPanic.normal ?_
      go_wp2_with fail
      go_ret
      exact do_ok _ HE.out rfl ((k2.mono HB.out).trans HN.out.2.2.2) (fun b cs hc => HN.out.2.2.1 b cs (blk_keep hc k2)) HN.out.2.1
    · go_simp
      refine hK.out _ _ ((by first | exact HYK2.out _ (k22.alloc (Nat.le_refl _) _).drew | exact HYK2.out _ (k22.drew.alloc (Nat.le_refl _) _))) (fun hHeld => ?_)
      clear hK K
      try simp only [Act.put]
      try simp only [List.setIfInBounds_toArray]
      try simp only [List.set_cons_succ]
      try simp only [List.set_cons_zero]
      refine wpAnyH_ready (rs := [4]) (by kernel_rfl) (by simp) ?_
      refine AllReadyH.cons rfl (fun K hK => ?_) AllReadyH.nil
      go_simp
      refine hK.out _ _ ((by first | exact HYK2.out _ (k22.alloc (Nat.le_refl _) _).drew | exact HYK2.out _ (k22.drew.alloc (Nat.le_refl _) _))) (fun hHeld => ?_)
      clear hK K
      try simp only [Act.put]
      try simp only [List.setIfInBounds_toArray]
      try simp only [List.set_cons_succ]
      try simp only [List.set_cons_zero]
      refine wpAnyH_ready (rs := [11]) (by kernel_rfl) (by simp) ?_
      refine AllReadyH.cons rfl (fun K hK => ?_) AllReadyH.nil
      go_simp
      go_at_call 53
      refine (HIN.out _ (by first | exact (Below.refl _ _).alloc (Nat.le_refl _) _ | exact ((Below.refl _ _).alloc (Nat.le_refl _) _).drew | exact (Below.refl _ _).drew.alloc (Nat.le_refl _) _) (by first | exact blk_new _ _ | exact blk_new w3 _)).mono ?_
      rintro e w5 ⟨a5, c5, rfl, ho5, hg5, hfr5⟩
      have HN := Lib.hid (new_row2 HO2.out hi _ a5 c5 HL3.out (by rw [HSL.out]; exact hg5) ho5 (by rw [HSL.out]; exact hfr5) (by first | exact (Below.refl _ _).alloc (Nat.le_refl _) _ | exact ((Below.refl _ _).alloc (Nat.le_refl _) _).drew | exact (Below.refl _ _).drew.alloc (Nat.le_refl _) _))
      obtain ⟨z4, zf⟩ := HN.out.1
      have HS5 := Lib.hid (HFAR.out _ w5 (by first | exact (Below.refl _ _).alloc (Nat.le_refl _) _ | exact ((Below.refl _ _).alloc (Nat.le_refl _) _).drew | exact (Below.refl _ _).drew.alloc (Nat.le_refl _) _) hg5)
      clear ho5 hg5 hfr5
      try go_simp
      refine hK.out _ _ (HS5.out) (fun hHeld => ?_)
      clear hK K
      try simp only [Act.put]
      try simp only [List.setIfInBounds_toArray]
      try simp only [List.set_cons_succ]
      try simp only [List.set_cons_zero]
      refine wpAnyH_take (i := 12) (v := ?v12x12) rfl (by kernel_rfl) (by kernel_rfl) (by kernel_rfl) (fun _ _ _ h => h) (Or.inl ⟨by rfl, ?h12x12⟩) (by assumption) ?_
      case h12x12 =>
        intro wq hSw
        try dsimp only at hSw
        go_simp
        try with_reducible rfl
      try simp only [Act.put]
      try simp only [List.setIfInBounds_toArray]
      try simp only [List.set_cons_succ]
      try simp only [List.set_cons_zero]
      refine wpAnyH_take (i := 13) (v := ?v13x13) rfl (by kernel_rfl) (by kernel_rfl) (by kernel_rfl) (fun _ _ _ h => h) (Or.inl ⟨by rfl, ?h13x13⟩) (by assumption) ?_
      case h13x13 =>
        intro wq hSw
        try dsimp only at hSw
        go_simp
        try with_reducible rfl
      try simp only [Act.put]
      try simp only [List.setIfInBounds_toArray]
      try simp only [List.set_cons_succ]
      try simp only [List.set_cons_zero]
      refine wpAnyH_ready (rs := [14]) (by kernel_rfl) (by simp) ?_
      refine AllReadyH.cons rfl (fun K hK => ?_) AllReadyH.nil
      go_simp
      refine hK.out _ _ (HPUT.out _ HS5.out _) (fun hHeld => ?_)
      clear hK K
      try simp only [Act.put]
      try simp only [List.setIfInBounds_toArray]
      try simp only [List.set_cons_succ]
      try simp only [List.set_cons_zero]
      refine wpAnyH_done (by kernel_rfl) ?_ _
      refine NoPanic.normal ?_
      go_wp2_with fail
      go_ret
      exact do_ok _ HE.out rfl ((k2.mono HB.out).trans HN.out.2.2.2) (fun b cs hc => HN.out.2.2.1 b cs (blk_keep hc k2)) HN.out.2.1
  · go_wp2_with fail
    refine (name_q t _ htn).mono ?_
    rintro e w3 ⟨rfl, rfl⟩
    rw [h1]
    go_wp2_with fail
    refine (money_any n _).mono ?_
    rintro e w3 ⟨rfl, rfl⟩
    rw [h3]
    go_upto_region 10 with fail
    refine wp_region_noPanic ?_
    refine wp_region_held_drew (S := fun wy => wy.cell? ⟨Y, 0, none⟩ = some (.bool false) ∧ wy.cell? ⟨Z, 0, none⟩ = some (.int .i64 n) ∧ wy.cell? ⟨X, 0, none⟩ = some (.string t)) (by kernel_rfl) (HYK2.out _ k2d) (fun hHeld => ?_)
    refine wpAnyH_take (i := 0) (v := ?v0x14) rfl (by kernel_rfl) (by kernel_rfl) (by kernel_rfl) (fun _ _ _ h => h) (Or.inl ⟨by rfl, ?h0x14⟩) (by assumption) ?_
    case h0x14 =>
      intro wq hSw
      try dsimp only at hSw
      go_simp
      try with_reducible rfl
    try simp only [Act.put]
    try simp only [List.setIfInBounds_toArray]
    try simp only [List.set_cons_succ]
    try simp only [List.set_cons_zero]
    refine wpAnyH_take (i := 1) (v := ?v1x15) rfl (by kernel_rfl) (by kernel_rfl) (by kernel_rfl) (fun _ _ _ h => h) (Or.inl ⟨by rfl, ?h1x15⟩) (by assumption) ?_
    case h1x15 =>
      intro wq hSw
      try dsimp only at hSw
      go_simp
      try with_reducible rfl
    try simp only [Act.put]
    try simp only [List.setIfInBounds_toArray]
    try simp only [List.set_cons_succ]
    try simp only [List.set_cons_zero]
    refine wpAnyH_take (i := 2) (v := ?v2x16) rfl (by kernel_rfl) (by kernel_rfl) (by kernel_rfl) (fun _ _ _ h => h) (Or.inl ⟨by rfl, ?h2x16⟩) (by assumption) ?_
    case h2x16 =>
      intro wq hSw
      try dsimp only at hSw
      go_simp
      try with_reducible rfl
    try simp only [Act.put]
    try simp only [List.setIfInBounds_toArray]
    try simp only [List.set_cons_succ]
    try simp only [List.set_cons_zero]
    refine wpAnyH_take (i := 3) (v := ?v3x17) rfl (by kernel_rfl) (by kernel_rfl) (by kernel_rfl) (fun _ _ _ h => h) (Or.inl ⟨by rfl, ?h3x17⟩) (by assumption) ?_
    case h3x17 =>
      intro wq hSw
      try dsimp only at hSw
      go_simp
      try with_reducible rfl
    try simp only [Act.put]
    try simp only [List.setIfInBounds_toArray]
    try simp only [List.set_cons_succ]
    try simp only [List.set_cons_zero]
    refine wpAnyH_take (i := 5) (v := ?v5x18) rfl (by kernel_rfl) (by kernel_rfl) (by kernel_rfl) (fun _ _ _ h => h) (Or.inl ⟨by rfl, ?h5x18⟩) (by assumption) ?_
    case h5x18 =>
      intro wq hSw
      try dsimp only at hSw
      go_simp
      try with_reducible rfl
    try simp only [Act.put]
    try simp only [List.setIfInBounds_toArray]
    try simp only [List.set_cons_succ]
    try simp only [List.set_cons_zero]
    refine wpAnyH_take (i := 6) (v := ?v6x19) rfl (by kernel_rfl) (by kernel_rfl) (by kernel_rfl) (fun _ _ _ h => h) (Or.inl ⟨by rfl, ?h6x19⟩) (by assumption) ?_
    case h6x19 =>
      intro wq hSw
      try dsimp only at hSw
      go_simp
      try with_reducible rfl
    try simp only [Act.put]
    try simp only [List.setIfInBounds_toArray]
    try simp only [List.set_cons_succ]
    try simp only [List.set_cons_zero]
    refine wpAnyH_take (i := 7) (v := ?v7x20) rfl (by kernel_rfl) (by kernel_rfl) (by kernel_rfl) (fun _ _ _ h => h) (Or.inl ⟨by rfl, ?h7x20⟩) (by assumption) ?_
    case h7x20 =>
      intro wq hSw
      try dsimp only at hSw
      go_simp
      try with_reducible rfl
    try simp only [Act.put]
    try simp only [List.setIfInBounds_toArray]
    try simp only [List.set_cons_succ]
    try simp only [List.set_cons_zero]
    refine wpAnyH_take (i := 8) (v := ?v8x21) rfl (by kernel_rfl) (by kernel_rfl) (by kernel_rfl) (fun _ _ _ h => h) (Or.inl ⟨by rfl, ?h8x21⟩) (by assumption) ?_
    case h8x21 =>
      intro wq hSw
      try dsimp only at hSw
      go_simp
      try with_reducible rfl
    try simp only [Act.put]
    try simp only [List.setIfInBounds_toArray]
    try simp only [List.set_cons_succ]
    try simp only [List.set_cons_zero]
    refine wpAnyH_take (i := 9) (v := ?v9x22) rfl (by kernel_rfl) (by kernel_rfl) (by kernel_rfl) (fun _ _ _ h => h) (Or.inl ⟨by rfl, ?h9x22⟩) (by assumption) ?_
    case h9x22 =>
      intro wq hSw
      try dsimp only at hSw
      go_simp
      try with_reducible rfl
    try simp only [Act.put]
    try simp only [List.setIfInBounds_toArray]
    try simp only [List.set_cons_succ]
    try simp only [List.set_cons_zero]
    refine wpAnyH_ready (rs := [4, 10]) (by kernel_rfl) (by simp) ?_
    refine AllReadyH.cons rfl (fun K hK => ?_) (AllReadyH.cons rfl (fun K hK => ?_) AllReadyH.nil)
    · go_simp
      refine hK.out _ _ (HYK2.out _ k2d) (fun hHeld => ?_)
      clear hK K
      try simp only [Act.put]
      try simp only [List.setIfInBounds_toArray]
      try simp only [List.set_cons_succ]
      try simp only [List.set_cons_zero]
      refine wpAnyH_ready (rs := [10]) (by kernel_rfl) (by simp) ?_
      refine AllReadyH.cons rfl (fun K hK => ?_) AllReadyH.nil
      go_simp
      refine hK.out _ _ ((by first | exact HYK2.out _ (k22.alloc (Nat.le_refl _) _).drew | exact HYK2.out _ (k22.drew.alloc (Nat.le_refl _) _))) (fun hHeld => ?_)
      clear hK K
      try simp only [Act.put]
      try simp only [List.setIfInBounds_toArray]
      try simp only [List.set_cons_succ]
      try simp only [List.set_cons_zero]
      refine wpAnyH_ready (rs := [11]) (by kernel_rfl) (by simp) ?_
      refine AllReadyH.cons rfl (fun K hK => ?_) AllReadyH.nil
      go_simp
      go_at_call 53
      refine (HIN.out _ (by first | exact (Below.refl _ _).alloc (Nat.le_refl _) _ | exact ((Below.refl _ _).alloc (Nat.le_refl _) _).drew | exact (Below.refl _ _).drew.alloc (Nat.le_refl _) _) (by first | exact blk_new _ _ | exact blk_new w3 _)).mono ?_
      rintro e w5 ⟨a5, c5, rfl, ho5, hg5, hfr5⟩
      have HN := Lib.hid (new_row2 HO2.out hi _ a5 c5 HL3.out (by rw [HSL.out]; exact hg5) ho5 (by rw [HSL.out]; exact hfr5) (by first | exact (Below.refl _ _).alloc (Nat.le_refl _) _ | exact ((Below.refl _ _).alloc (Nat.le_refl _) _).drew | exact (Below.refl _ _).drew.alloc (Nat.le_refl _) _))
      obtain ⟨z4, zf⟩ := HN.out.1
      have HS5 := Lib.hid (HFAR.out _ w5 (by first | exact (Below.refl _ _).alloc (Nat.le_refl _) _ | exact ((Below.refl _ _).alloc (Nat.le_refl _) _).drew | exact (Below.refl _ _).drew.alloc (Nat.le_refl _) _) hg5)
      clear ho5 hg5 hfr5
      try go_simp
      refine hK.out _ _ (HS5.out) (fun hHeld => ?_)
      clear hK K
      try simp only [Act.put]
      try simp only [List.setIfInBounds_toArray]
      try simp only [List.set_cons_succ]
      try simp only [List.set_cons_zero]
      refine wpAnyH_take (i := 12) (v := ?v12x23) rfl (by kernel_rfl) (by kernel_rfl) (by kernel_rfl) (fun _ _ _ h => h) (Or.inl ⟨by rfl, ?h12x23⟩) (by assumption) ?_
      case h12x23 =>
        intro wq hSw
        try dsimp only at hSw
        go_simp
        try with_reducible rfl
      try simp only [Act.put]
      try simp only [List.setIfInBounds_toArray]
      try simp only [List.set_cons_succ]
      try simp only [List.set_cons_zero]
      refine wpAnyH_take (i := 13) (v := ?v13x24) rfl (by kernel_rfl) (by kernel_rfl) (by kernel_rfl) (fun _ _ _ h => h) (Or.inl ⟨by rfl, ?h13x24⟩) (by assumption) ?_
      case h13x24 =>
        intro wq hSw
        try dsimp only at hSw
        go_simp
        try with_reducible rfl
      try simp only [Act.put]
      try simp only [List.setIfInBounds_toArray]
      try simp only [List.set_cons_succ]
      try simp only [List.set_cons_zero]
      refine wpAnyH_ready (rs := [14]) (by kernel_rfl) (by simp) ?_
      refine AllReadyH.cons rfl (fun K hK => ?_) AllReadyH.nil
      go_simp
      refine hK.out _ _ (HPUT.out _ HS5.out _) (fun hHeld => ?_)
      clear hK K
      try simp only [Act.put]
      try simp only [List.setIfInBounds_toArray]
      try simp only [List.set_cons_succ]
      try simp only [List.set_cons_zero]
      refine wpAnyH_done (by kernel_rfl) ?_ _
      refine NoPanic.normal ?_
      go_wp2_with fail
      go_ret
      exact do_ok _ HE.out rfl ((k2.mono HB.out).trans HN.out.2.2.2) (fun b cs hc => HN.out.2.2.1 b cs (blk_keep hc k2)) HN.out.2.1
    · go_simp
      refine hK.out _ _ ((by first | exact HYK2.out _ (k22.alloc (Nat.le_refl _) _).drew | exact HYK2.out _ (k22.drew.alloc (Nat.le_refl _) _))) (fun hHeld => ?_)
      clear hK K
      try simp only [Act.put]
      try simp only [List.setIfInBounds_toArray]
      try simp only [List.set_cons_succ]
      try simp only [List.set_cons_zero]
      refine wpAnyH_ready (rs := [4]) (by kernel_rfl) (by simp) ?_
      refine AllReadyH.cons rfl (fun K hK => ?_) AllReadyH.nil
      go_simp
      refine hK.out _ _ ((by first | exact HYK2.out _ (k22.alloc (Nat.le_refl _) _).drew | exact HYK2.out _ (k22.drew.alloc (Nat.le_refl _) _))) (fun hHeld => ?_)
      clear hK K
      try simp only [Act.put]
      try simp only [List.setIfInBounds_toArray]
      try simp only [List.set_cons_succ]
      try simp only [List.set_cons_zero]
      refine wpAnyH_ready (rs := [11]) (by kernel_rfl) (by simp) ?_
      refine AllReadyH.cons rfl (fun K hK => ?_) AllReadyH.nil
      go_simp
      go_at_call 53
      refine (HIN.out _ (by first | exact (Below.refl _ _).alloc (Nat.le_refl _) _ | exact ((Below.refl _ _).alloc (Nat.le_refl _) _).drew | exact (Below.refl _ _).drew.alloc (Nat.le_refl _) _) (by first | exact blk_new _ _ | exact blk_new w3 _)).mono ?_
      rintro e w5 ⟨a5, c5, rfl, ho5, hg5, hfr5⟩
      have HN := Lib.hid (new_row2 HO2.out hi _ a5 c5 HL3.out (by rw [HSL.out]; exact hg5) ho5 (by rw [HSL.out]; exact hfr5) (by first | exact (Below.refl _ _).alloc (Nat.le_refl _) _ | exact ((Below.refl _ _).alloc (Nat.le_refl _) _).drew | exact (Below.refl _ _).drew.alloc (Nat.le_refl _) _))
      obtain ⟨z4, zf⟩ := HN.out.1
      have HS5 := Lib.hid (HFAR.out _ w5 (by first | exact (Below.refl _ _).alloc (Nat.le_refl _) _ | exact ((Below.refl _ _).alloc (Nat.le_refl _) _).drew | exact (Below.refl _ _).drew.alloc (Nat.le_refl _) _) hg5)
      clear ho5 hg5 hfr5
      try go_simp
      refine hK.out _ _ (HS5.out) (fun hHeld => ?_)
      clear hK K
      try simp only [Act.put]
      try simp only [List.setIfInBounds_toArray]
      try simp only [List.set_cons_succ]
      try simp only [List.set_cons_zero]
      refine wpAnyH_take (i := 12) (v := ?v12x25) rfl (by kernel_rfl) (by kernel_rfl) (by kernel_rfl) (fun _ _ _ h => h) (Or.inl ⟨by rfl, ?h12x25⟩) (by assumption) ?_
      case h12x25 =>
        intro wq hSw
        try dsimp only at hSw
        go_simp
        try with_reducible rfl
      try simp only [Act.put]
      try simp only [List.setIfInBounds_toArray]
      try simp only [List.set_cons_succ]
      try simp only [List.set_cons_zero]
      refine wpAnyH_take (i := 13) (v := ?v13x26) rfl (by kernel_rfl) (by kernel_rfl) (by kernel_rfl) (fun _ _ _ h => h) (Or.inl ⟨by rfl, ?h13x26⟩) (by assumption) ?_
      case h13x26 =>
        intro wq hSw
        try dsimp only at hSw
        go_simp
        try with_reducible rfl
      try simp only [Act.put]
      try simp only [List.setIfInBounds_toArray]
      try simp only [List.set_cons_succ]
      try simp only [List.set_cons_zero]
      refine wpAnyH_ready (rs := [14]) (by kernel_rfl) (by simp) ?_
      refine AllReadyH.cons rfl (fun K hK => ?_) AllReadyH.nil
      go_simp
      refine hK.out _ _ (HPUT.out _ HS5.out _) (fun hHeld => ?_)
      clear hK K
      try simp only [Act.put]
      try simp only [List.setIfInBounds_toArray]
      try simp only [List.set_cons_succ]
      try simp only [List.set_cons_zero]
      refine wpAnyH_done (by kernel_rfl) ?_ _
      refine NoPanic.normal ?_
      go_wp2_with fail
      go_ret
      exact do_ok _ HE.out rfl ((k2.mono HB.out).trans HN.out.2.2.2) (fun b cs hc => HN.out.2.2.1 b cs (blk_keep hc k2)) HN.out.2.1
  · go_wp2_with fail
    refine (name_q t _ htn).mono ?_
    rintro e w3 ⟨rfl, rfl⟩
    rw [h1]
    go_wp2_with fail
    refine (money_any n _).mono ?_
    rintro e w3 ⟨rfl, rfl⟩
    rw [h3]
    go_upto_region 10 with fail
    refine wp_region_noPanic ?_
    refine wp_region_held_drew (S := fun wy => wy.cell? ⟨Y, 0, none⟩ = some (.bool true) ∧ wy.cell? ⟨Z, 0, none⟩ = some (.int .i64 n) ∧ wy.cell? ⟨X, 0, none⟩ = some (.string t)) (by kernel_rfl) (HYK2.out _ k2d) (fun hHeld => ?_)
    refine wpAnyH_take (i := 0) (v := ?v0x27) rfl (by kernel_rfl) (by kernel_rfl) (by kernel_rfl) (fun _ _ _ h => h) (Or.inl ⟨by rfl, ?h0x27⟩) (by assumption) ?_
    case h0x27 =>
      intro wq hSw
      try dsimp only at hSw
      go_simp
      try with_reducible rfl
    try simp only [Act.put]
    try simp only [List.setIfInBounds_toArray]
    try simp only [List.set_cons_succ]
    try simp only [List.set_cons_zero]
    refine wpAnyH_take (i := 1) (v := ?v1x28) rfl (by kernel_rfl) (by kernel_rfl) (by kernel_rfl) (fun _ _ _ h => h) (Or.inl ⟨by rfl, ?h1x28⟩) (by assumption) ?_
    case h1x28 =>
      intro wq hSw
      try dsimp only at hSw
      go_simp
      try with_reducible rfl
    try simp only [Act.put]
    try simp only [List.setIfInBounds_toArray]
    try simp only [List.set_cons_succ]
    try simp only [List.set_cons_zero]
    refine wpAnyH_take (i := 2) (v := ?v2x29) rfl (by kernel_rfl) (by kernel_rfl) (by kernel_rfl) (fun _ _ _ h => h) (Or.inl ⟨by rfl, ?h2x29⟩) (by assumption) ?_
    case h2x29 =>
      intro wq hSw
      try dsimp only at hSw
      go_simp
      try with_reducible rfl
    try simp only [Act.put]
    try simp only [List.setIfInBounds_toArray]
    try simp only [List.set_cons_succ]
    try simp only [List.set_cons_zero]
    refine wpAnyH_take (i := 3) (v := ?v3x30) rfl (by kernel_rfl) (by kernel_rfl) (by kernel_rfl) (fun _ _ _ h => h) (Or.inl ⟨by rfl, ?h3x30⟩) (by assumption) ?_
    case h3x30 =>
      intro wq hSw
      try dsimp only at hSw
      go_simp
      try with_reducible rfl
    try simp only [Act.put]
    try simp only [List.setIfInBounds_toArray]
    try simp only [List.set_cons_succ]
    try simp only [List.set_cons_zero]
    refine wpAnyH_take (i := 5) (v := ?v5x31) rfl (by kernel_rfl) (by kernel_rfl) (by kernel_rfl) (fun _ _ _ h => h) (Or.inl ⟨by rfl, ?h5x31⟩) (by assumption) ?_
    case h5x31 =>
      intro wq hSw
      try dsimp only at hSw
      go_simp
      try with_reducible rfl
    try simp only [Act.put]
    try simp only [List.setIfInBounds_toArray]
    try simp only [List.set_cons_succ]
    try simp only [List.set_cons_zero]
    refine wpAnyH_take (i := 6) (v := ?v6x32) rfl (by kernel_rfl) (by kernel_rfl) (by kernel_rfl) (fun _ _ _ h => h) (Or.inl ⟨by rfl, ?h6x32⟩) (by assumption) ?_
    case h6x32 =>
      intro wq hSw
      try dsimp only at hSw
      go_simp
      try with_reducible rfl
    try simp only [Act.put]
    try simp only [List.setIfInBounds_toArray]
    try simp only [List.set_cons_succ]
    try simp only [List.set_cons_zero]
    refine wpAnyH_take (i := 7) (v := ?v7x33) rfl (by kernel_rfl) (by kernel_rfl) (by kernel_rfl) (fun _ _ _ h => h) (Or.inl ⟨by rfl, ?h7x33⟩) (by assumption) ?_
    case h7x33 =>
      intro wq hSw
      try dsimp only at hSw
      go_simp
      try with_reducible rfl
    try simp only [Act.put]
    try simp only [List.setIfInBounds_toArray]
    try simp only [List.set_cons_succ]
    try simp only [List.set_cons_zero]
    refine wpAnyH_take (i := 8) (v := ?v8x34) rfl (by kernel_rfl) (by kernel_rfl) (by kernel_rfl) (fun _ _ _ h => h) (Or.inl ⟨by rfl, ?h8x34⟩) (by assumption) ?_
    case h8x34 =>
      intro wq hSw
      try dsimp only at hSw
      go_simp
      try with_reducible rfl
    try simp only [Act.put]
    try simp only [List.setIfInBounds_toArray]
    try simp only [List.set_cons_succ]
    try simp only [List.set_cons_zero]
    refine wpAnyH_take (i := 9) (v := ?v9x35) rfl (by kernel_rfl) (by kernel_rfl) (by kernel_rfl) (fun _ _ _ h => h) (Or.inl ⟨by rfl, ?h9x35⟩) (by assumption) ?_
    case h9x35 =>
      intro wq hSw
      try dsimp only at hSw
      go_simp
      try with_reducible rfl
    try simp only [Act.put]
    try simp only [List.setIfInBounds_toArray]
    try simp only [List.set_cons_succ]
    try simp only [List.set_cons_zero]
    refine wpAnyH_ready (rs := [4, 10]) (by kernel_rfl) (by simp) ?_
    refine AllReadyH.cons rfl (fun K hK => ?_) (AllReadyH.cons rfl (fun K hK => ?_) AllReadyH.nil)
    · go_simp
      refine hK.out _ _ (HYK2.out _ k2d) (fun hHeld => ?_)
      clear hK K
      try simp only [Act.put]
      try simp only [List.setIfInBounds_toArray]
      try simp only [List.set_cons_succ]
      try simp only [List.set_cons_zero]
      refine wpAnyH_ready (rs := [10]) (by kernel_rfl) (by simp) ?_
      refine AllReadyH.cons rfl (fun K hK => ?_) AllReadyH.nil
      go_simp
      refine hK.out _ _ ((by first | exact HYK2.out _ (k22.alloc (Nat.le_refl _) _).drew | exact HYK2.out _ (k22.drew.alloc (Nat.le_refl _) _))) (fun hHeld => ?_)
      clear hK K
      try simp only [Act.put]
      try simp only [List.setIfInBounds_toArray]
      try simp only [List.set_cons_succ]
      try simp only [List.set_cons_zero]
      refine wpAnyH_ready (rs := [11]) (by kernel_rfl) (by simp) ?_
      refine AllReadyH.cons rfl (fun K hK => ?_) AllReadyH.nil
      go_simp
      go_at_call 53
      refine (HIN.out _ (by first | exact (Below.refl _ _).alloc (Nat.le_refl _) _ | exact ((Below.refl _ _).alloc (Nat.le_refl _) _).drew | exact (Below.refl _ _).drew.alloc (Nat.le_refl _) _) (by first | exact blk_new _ _ | exact blk_new w3 _)).mono ?_
      rintro e w5 ⟨a5, c5, rfl, ho5, hg5, hfr5⟩
      have HN := Lib.hid (new_row2 HO2.out hi _ a5 c5 HL3.out (by rw [HSL.out]; exact hg5) ho5 (by rw [HSL.out]; exact hfr5) (by first | exact (Below.refl _ _).alloc (Nat.le_refl _) _ | exact ((Below.refl _ _).alloc (Nat.le_refl _) _).drew | exact (Below.refl _ _).drew.alloc (Nat.le_refl _) _))
      obtain ⟨z4, zf⟩ := HN.out.1
      have HS5 := Lib.hid (HFAR.out _ w5 (by first | exact (Below.refl _ _).alloc (Nat.le_refl _) _ | exact ((Below.refl _ _).alloc (Nat.le_refl _) _).drew | exact (Below.refl _ _).drew.alloc (Nat.le_refl _) _) hg5)
      clear ho5 hg5 hfr5
      try go_simp
      refine hK.out _ _ (HS5.out) (fun hHeld => ?_)
      clear hK K
      try simp only [Act.put]
      try simp only [List.setIfInBounds_toArray]
      try simp only [List.set_cons_succ]
      try simp only [List.set_cons_zero]
      refine wpAnyH_take (i := 12) (v := ?v12x36) rfl (by kernel_rfl) (by kernel_rfl) (by kernel_rfl) (fun _ _ _ h => h) (Or.inl ⟨by rfl, ?h12x36⟩) (by assumption) ?_
      case h12x36 =>
        intro wq hSw
        try dsimp only at hSw
        go_simp
        try with_reducible rfl
      try simp only [Act.put]
      try simp only [List.setIfInBounds_toArray]
      try simp only [List.set_cons_succ]
      try simp only [List.set_cons_zero]
      refine wpAnyH_take (i := 13) (v := ?v13x37) rfl (by kernel_rfl) (by kernel_rfl) (by kernel_rfl) (fun _ _ _ h => h) (Or.inl ⟨by rfl, ?h13x37⟩) (by assumption) ?_
      case h13x37 =>
        intro wq hSw
        try dsimp only at hSw
        go_simp
        try with_reducible rfl
      try simp only [Act.put]
      try simp only [List.setIfInBounds_toArray]
      try simp only [List.set_cons_succ]
      try simp only [List.set_cons_zero]
      refine wpAnyH_ready (rs := [14]) (by kernel_rfl) (by simp) ?_
      refine AllReadyH.cons rfl (fun K hK => ?_) AllReadyH.nil
      go_simp
      refine hK.out _ _ (HPUT.out _ HS5.out _) (fun hHeld => ?_)
      clear hK K
      try simp only [Act.put]
      try simp only [List.setIfInBounds_toArray]
      try simp only [List.set_cons_succ]
      try simp only [List.set_cons_zero]
      refine wpAnyH_done (by kernel_rfl) ?_ _
      refine NoPanic.normal ?_
      go_wp2_with fail
      go_ret
      exact do_ok _ HE.out rfl ((k2.mono HB.out).trans HN.out.2.2.2) (fun b cs hc => HN.out.2.2.1 b cs (blk_keep hc k2)) HN.out.2.1
    · go_simp
      refine hK.out _ _ ((by first | exact HYK2.out _ (k22.alloc (Nat.le_refl _) _).drew | exact HYK2.out _ (k22.drew.alloc (Nat.le_refl _) _))) (fun hHeld => ?_)
      clear hK K
      try simp only [Act.put]
      try simp only [List.setIfInBounds_toArray]
      try simp only [List.set_cons_succ]
      try simp only [List.set_cons_zero]
      refine wpAnyH_ready (rs := [4]) (by kernel_rfl) (by simp) ?_
      refine AllReadyH.cons rfl (fun K hK => ?_) AllReadyH.nil
      go_simp
      refine hK.out _ _ ((by first | exact HYK2.out _ (k22.alloc (Nat.le_refl _) _).drew | exact HYK2.out _ (k22.drew.alloc (Nat.le_refl _) _))) (fun hHeld => ?_)
      clear hK K
      try simp only [Act.put]
      try simp only [List.setIfInBounds_toArray]
      try simp only [List.set_cons_succ]
      try simp only [List.set_cons_zero]
      refine wpAnyH_ready (rs := [11]) (by kernel_rfl) (by simp) ?_
      refine AllReadyH.cons rfl (fun K hK => ?_) AllReadyH.nil
      go_simp
      go_at_call 53
      refine (HIN.out _ (by first | exact (Below.refl _ _).alloc (Nat.le_refl _) _ | exact ((Below.refl _ _).alloc (Nat.le_refl _) _).drew | exact (Below.refl _ _).drew.alloc (Nat.le_refl _) _) (by first | exact blk_new _ _ | exact blk_new w3 _)).mono ?_
      rintro e w5 ⟨a5, c5, rfl, ho5, hg5, hfr5⟩
      have HN := Lib.hid (new_row2 HO2.out hi _ a5 c5 HL3.out (by rw [HSL.out]; exact hg5) ho5 (by rw [HSL.out]; exact hfr5) (by first | exact (Below.refl _ _).alloc (Nat.le_refl _) _ | exact ((Below.refl _ _).alloc (Nat.le_refl _) _).drew | exact (Below.refl _ _).drew.alloc (Nat.le_refl _) _))
      obtain ⟨z4, zf⟩ := HN.out.1
      have HS5 := Lib.hid (HFAR.out _ w5 (by first | exact (Below.refl _ _).alloc (Nat.le_refl _) _ | exact ((Below.refl _ _).alloc (Nat.le_refl _) _).drew | exact (Below.refl _ _).drew.alloc (Nat.le_refl _) _) hg5)
      clear ho5 hg5 hfr5
      try go_simp
      refine hK.out _ _ (HS5.out) (fun hHeld => ?_)
      clear hK K
      try simp only [Act.put]
      try simp only [List.setIfInBounds_toArray]
      try simp only [List.set_cons_succ]
      try simp only [List.set_cons_zero]
      refine wpAnyH_take (i := 12) (v := ?v12x38) rfl (by kernel_rfl) (by kernel_rfl) (by kernel_rfl) (fun _ _ _ h => h) (Or.inl ⟨by rfl, ?h12x38⟩) (by assumption) ?_
      case h12x38 =>
        intro wq hSw
        try dsimp only at hSw
        go_simp
        try with_reducible rfl
      try simp only [Act.put]
      try simp only [List.setIfInBounds_toArray]
      try simp only [List.set_cons_succ]
      try simp only [List.set_cons_zero]
      refine wpAnyH_take (i := 13) (v := ?v13x39) rfl (by kernel_rfl) (by kernel_rfl) (by kernel_rfl) (fun _ _ _ h => h) (Or.inl ⟨by rfl, ?h13x39⟩) (by assumption) ?_
      case h13x39 =>
        intro wq hSw
        try dsimp only at hSw
        go_simp
        try with_reducible rfl
      try simp only [Act.put]
      try simp only [List.setIfInBounds_toArray]
      try simp only [List.set_cons_succ]
      try simp only [List.set_cons_zero]
      refine wpAnyH_ready (rs := [14]) (by kernel_rfl) (by simp) ?_
      refine AllReadyH.cons rfl (fun K hK => ?_) AllReadyH.nil
      go_simp
      refine hK.out _ _ (HPUT.out _ HS5.out _) (fun hHeld => ?_)
      clear hK K
      try simp only [Act.put]
      try simp only [List.setIfInBounds_toArray]
      try simp only [List.set_cons_succ]
      try simp only [List.set_cons_zero]
      refine wpAnyH_done (by kernel_rfl) ?_ _
      refine NoPanic.normal ?_
      go_wp2_with fail
      go_ret
      exact do_ok _ HE.out rfl ((k2.mono HB.out).trans HN.out.2.2.2) (fun b cs hc => HN.out.2.2.1 b cs (blk_keep hc k2)) HN.out.2.1
end Go.Proofs.Ytoemjpfoddeinaa.Mb
