/-
  Member: the walks of Exposure and Leave of the program.
-/
import Derived.Test.YtoemjpfoddeinaaMbM
namespace Go.Proofs.Ytoemjpfoddeinaa.Mb
open Go.RowKit Go.Proofs.Ytoemjpfoddeinaa Go.Proofs.Ytoemjpfoddeinaa.Ls Go.Proofs.Ytoemjpfoddeinaa.Kb
open Go.Proofs.Ytoemjpfoddeinaa.Nm hiding ret_bool ret_int

/-- a member that is there -/
theorem there {xs : List P} {t : ByteArray} (h0 : plE (fst xs) t = 0) : chk (fst xs) = 0 ∧ pos (nms (fst xs)) t < xs.length ∧ plI (fst xs) t = (pos (nms (fst xs)) t : Int) ∧ at_ (fst xs) t = (gp xs (pos (nms (fst xs)) t)).1 ∧ val (gp xs (pos (nms (fst xs)) t)).1 = true := by
  have hpI : plI (fst xs) t = (pos (nms (fst xs)) t : Int) := by unfold plI; rw [if_pos h0]
  have hchk : chk (fst xs) = 0 ∧ has (nms (fst xs)) t = true := by
    unfold plE at h0
    split at h0
    · rename_i g
      refine ⟨g, ?_⟩
      cases k : has (nms (fst xs)) t
      · rw [k] at h0; cases h0
      · rfl
    · cases h0
  have hpl : pos (nms (fst xs)) t < xs.length := by
    have := (pos_has _ _ (chk_srt hchk.1).2.1 hchk.2).1
    simpa [nms, fst] using this
  refine ⟨hchk.1, hpl, hpI, ?_, ?_⟩
  · unfold at_
    rw [gm_fst]
  · exact (chk_srt hchk.1).2.2 _ (List.mem_map.2 ⟨_, gp_mem xs _ hpl, rfl⟩)
theorem used_b4 {m : Me} (hv : val m = true) : ∀ y ∈ m.ac, -4503599627370496 ≤ y.us ∧ y.us ≤ 4503599627370496 := fun y hy => by
  have := used_b hv y hy
  omega

set_option maxRecDepth 100000 in
set_option maxHeartbeats 4000000 in
theorem expo_any (a : Option Addr) (c : Nat) (xs : List P) (t : ByteArray) (w : World) (hn : xs.length ≤ 1000) (hZ : ∀ x ∈ xs, OkM x.1) (hA : AtM w a xs) :
    Calls Try.prog 13 #[.agg #[.slice a xs.length c], .string t] w fun e w' => e = .returned (.tuple #[.int .i64 (expoF (fst xs) t).1, .int .i64 (expoF (fst xs) t).2]) ∧ Below w.heap.size w w' := by
  have HA := Lib.hid hA
  have HP := Lib.hid (fun wx (h : AtM wx a xs) => place_any a c xs t wx hn hZ h)
  have HZ := Lib.hid hZ
  have hbo : Below w.heap.size w (w.alloc (.cells #[.slice a xs.length c] 24)) := (Below.refl _ _).alloc (Nat.le_refl _) _
  have HX := Lib.hid (blk_new w (.cells #[.slice a xs.length c] 24))
  obtain ⟨r, hr⟩ : ∃ r, r = expoF (fst xs) t := ⟨_, rfl⟩
  rw [← hr]
  have HR := Lib.hid hr
  clear hr hA hZ
  by_cases h0 : plE (fst xs) t = 0
  case neg =>
    have HR2 := Lib.hid (show r = (0, plE (fst xs) t) by rw [HR.out]; unfold expoF; rw [if_neg h0])
    generalize plE (fst xs) t = e0 at HP HR2 h0
    generalize plI (fst xs) t = p0 at HP
    have h0' : (e0 != 0) = true := by simpa using h0
    go_enter Try.func13, Try.ntmps13
    go_wp2_with fail
    generalize w.alloc _ = wo at hbo HX ⊢
    refine (HP.out wo (HA.out.below hbo)).mono ?_
    rintro e w1 ⟨rfl, hb1⟩
    have c1 := bt hbo hb1 (Nat.le_refl _)
    go_wp2_with fail
    go_ret2
    exact ⟨by rw [HR2.out]; rfl, c1⟩
  case pos =>
    obtain ⟨_, hpl, hpI, hat, hval⟩ := there h0
    have HR2 := Lib.hid (show r = (ex (gp xs (pos (nms (fst xs)) t)).1.ac, 0) by rw [HR.out]; unfold expoF; rw [if_pos h0, hat])
    rw [h0, hpI] at HP
    generalize pos (nms (fst xs)) t = p at hpl HR2 hval HP
    have HE := Lib.hid (fun wx (h : AtM wx a xs) => exposure_any (gp xs p) wx (HZ.out _ (gp_mem xs p hpl)).len (h.ac _ (gp_mem xs p hpl)) (used_b4 hval))
    clear hpI hat hval h0 HR
    have hp0 : (0 : Int) ≤ (p : Int) := by omega
    have hp1 : (p : Int) < (xs.length : Int) := by omega
    go_enter Try.func13, Try.ntmps13
    go_wp2_with fail
    generalize w.alloc _ = wo at hbo HX ⊢
    refine (HP.out wo (HA.out.below hbo)).mono ?_
    rintro e w1 ⟨rfl, hb1⟩
    have c1 := bt hbo hb1 (Nat.le_refl _)
    have hx1 := blk_keep HX.out hb1
    have x0 := cell_of hx1 0 _ rfl
    clear hbo HX hb1 hx1 HP
    obtain ⟨b, off, rfl, q0, q1, q2, q3, q4⟩ := at_p (HA.out.below c1).ms p hpl
    go_wp2_with fail
    refine (HE.out w1 (HA.out.below c1)).mono ?_
    rintro e w2 ⟨rfl, hb2⟩
    have c2 := bt c1 hb2 (Nat.le_refl _)
    go_wp2_with fail
    go_ret2
    exact ⟨by rw [HR2.out]; rfl, c2⟩

theorem Rows.sub {w : World} {B : Nat} {xs ys : List P} (h : Rows w B xs) (hs : ys.Sublist xs) : Rows w B ys := ⟨fun x hx => h.own x (hs.subset hx), h.ne.sublist hs⟩
theorem del_sub {α : Type} (xs : List α) (i : Nat) : (xs.take i ++ xs.drop (i + 1)).Sublist xs := by
  have h : (xs.take i ++ xs.drop (i + 1)).Sublist (xs.take i ++ xs.drop i) := by
    refine List.Sublist.append (List.Sublist.refl _) ?_
    rw [← List.drop_drop]
    exact List.drop_sublist _ _
  rw [List.take_append_drop] at h
  exact h
theorem fst_del (xs : List P) (i : Nat) : fst (xs.take i ++ xs.drop (i + 1)) = (fst xs).take i ++ (fst xs).drop (i + 1) := by simp [fst, List.map_take, List.map_drop]
/-- what is kept where the members' block alone grows -/
theorem box_grown {w w' : World} {B : Nat} {v : Value} {xs : List P} (h : OwnL w B 30 5 mec v xs) (hg : w.grownBy w' v.ownBlock) {b : Nat} {cs : Array Value} (hc : w.heap[b]? = some (.cells cs 24 (0, 0))) : w'.heap[b]? = some (.cells cs 24 (0, 0)) := by
  have hne := own_blk h hc (by decide)
  exact (hg.block b (blk_lt hc) (fun e => hne e.symm)).trans hc
theorem rows_grown {w w' : World} {B : Nat} {v : Value} {xs ys : List P} (h : OwnL w B 30 5 mec v xs) (hg : w.grownBy w' v.ownBlock) (hr : Rows w B ys) : Rows w' B ys := hr.kept h (by decide) hg

set_option maxRecDepth 100000 in
set_option maxHeartbeats 8000000 in
theorem leave_any (a : Option Addr) (c : Nat) (xs : List P) (t : ByteArray) (w : World) (hn : xs.length ≤ 1000) (hZ : ∀ x ∈ xs, OkM x.1) (hA : AtM w a xs) :
    Calls Try.prog 15 #[.agg #[.slice a xs.length c], .string t] w (RPost (leaveF (fst xs) t) w) := by
  have HA := Lib.hid hA
  have HP := Lib.hid (fun wx (h : AtM wx a xs) => place_any a c xs t wx hn hZ h)
  have HCP := Lib.hid (fun wx (h : AtM wx a xs) => copied_any a c xs wx hn (fun x hx => (hZ x hx).len) h)
  have hbo : Below w.heap.size w ((w.alloc (.cells #[.slice a xs.length c] 24)).alloc (.cells #[.slice none 0 0] 24)) := ((Below.refl _ _).alloc (Nat.le_refl _) _).alloc (by simp) _
  have HX := Lib.hid (blk_two w (.cells #[.slice a xs.length c] 24) (.cells #[.slice none 0 0] 24))
  have HZ := Lib.hid hZ
  obtain ⟨r, hr⟩ : ∃ r, r = leaveF (fst xs) t := ⟨_, rfl⟩
  rw [← hr]
  have HR := Lib.hid hr
  clear hr hA hZ
  by_cases h0 : plE (fst xs) t = 0
  case neg =>
    have HR2 := Lib.hid (show r = ([], plE (fst xs) t) by rw [HR.out]; unfold leaveF; rw [if_neg h0])
    generalize plE (fst xs) t = e0 at HP HR2 h0
    generalize plI (fst xs) t = p0 at HP
    have h0' : (e0 != 0) = true := by simpa using h0
    go_enter Try.func15, Try.ntmps15
    go_wp2_with fail
    generalize (w.alloc _).alloc _ = wo at hbo HX ⊢
    refine (HP.out wo (HA.out.below hbo)).mono ?_
    rintro e w1 ⟨rfl, hb1⟩
    have hy1 := blk_keep HX.out.2 hb1
    have y0 := cell_of hy1 0 _ rfl
    have yf := frozen_of hy1 0
    have c1 := bt hbo hb1 (Nat.le_refl _)
    have HY1 := Lib.hid hy1
    clear HX hb1 hbo hy1
    go_wp2_with fail
    have h4 := set1 HY1.out (.slice none 0 0)
    have r0 := cell_of h4 0 _ rfl
    refine bodyPost_ret (v := .tuple #[.agg #[.slice none 0 0], .int .i64 e0]) (by simp [results, Try.results15, go_sem, r0]) rfl ⟨none, 0, [], by rw [HR2.out]; rfl, by rw [HR2.out]; rfl, OwnM.nil _ _, c1.setCell (p := ⟨w.heap.size + 1, 0, none⟩) (Nat.le_succ _) _⟩
  case pos =>
    obtain ⟨_, hpl, hpI, hat, hval⟩ := there h0
    have HR2 := Lib.hid (show r = (if ex (gp xs (pos (nms (fst xs)) t)).1.ac = 0 then ((fst xs).take (pos (nms (fst xs)) t) ++ (fst xs).drop (pos (nms (fst xs)) t + 1), 0) else ([], 20)) by rw [HR.out]; unfold leaveF; rw [if_pos h0, hat])
    rw [h0, hpI] at HP
    generalize pos (nms (fst xs)) t = p at hpl HR2 hval HP
    have HE := Lib.hid (fun wx (h : AtM wx a xs) => exposure_any (gp xs p) wx (HZ.out _ (gp_mem xs p hpl)).len (h.ac _ (gp_mem xs p hpl)) (used_b4 hval))
    clear hpI hat hval h0 HR
    have hp0 : (0 : Int) ≤ (p : Int) := by omega
    have hp1 : (p : Int) < (xs.length : Int) := by omega
    have hw1 : IntKind.i64.wrap ((p : Int) + 1) = (p : Int) + 1 := IntWalk.i64_in _ (by omega)
    go_enter Try.func15, Try.ntmps15
    go_wp2_with fail
    generalize (w.alloc _).alloc _ = wo at hbo HX ⊢
    refine (HP.out wo (HA.out.below hbo)).mono ?_
    rintro e w1 ⟨rfl, hb1⟩
    have c1 := bt hbo hb1 (Nat.le_refl _)
    have HX1 := Lib.hid (blk_keep HX.out.1 hb1)
    have HY1 := Lib.hid (blk_keep HX.out.2 hb1)
    have x0 := cell_of HX1.out 0 _ rfl
    clear hbo HX hb1 HP
    obtain ⟨b, off, rfl, q0, q1, q2, q3, q4⟩ := at_p (HA.out.below c1).ms p hpl
    go_wp2_with fail
    refine (HE.out w1 (HA.out.below c1)).mono ?_
    rintro e w2 ⟨rfl, hb2⟩
    have c2 := bt c1 hb2 (Nat.le_refl _)
    have HX2 := Lib.hid (blk_keep HX1.out hb2)
    have HY2 := Lib.hid (blk_keep HY1.out hb2)
    have x2 := cell_of HX2.out 0 _ rfl
    have y2 := cell_of HY2.out 0 _ rfl
    have yf2 := frozen_of HY2.out 0
    have xf2 := frozen_of HX2.out 0
    clear x0 q0 q1 q2 q3 q4 HX1 HY1 hb2 HE
    generalize ex (gp xs p).1.ac = E at HR2 ⊢
    by_cases hE : E = 0
    case neg =>
      have HR3 := Lib.hid (show r = ([], 20) by rw [HR2.out, if_neg hE])
      have hE' : (E != 0) = true := by simpa using hE
      go_wp2_with fail
      have h4 := set1 HY2.out (.slice none 0 0)
      have r0 := cell_of h4 0 _ rfl
      refine bodyPost_ret (v := .tuple #[.agg #[.slice none 0 0], .int .i64 20]) (by simp [results, Try.results15, go_sem, r0]) rfl ⟨none, 0, [], by rw [HR3.out]; rfl, by rw [HR3.out]; rfl, OwnM.nil _ _, c2.setCell (p := ⟨w.heap.size + 1, 0, none⟩) (Nat.le_succ _) _⟩
    case pos =>
      subst hE
      have HR3 := Lib.hid (show r = ((fst xs).take p ++ (fst xs).drop (p + 1), 0) by rw [HR2.out, if_pos rfl])
      go_wp2_with fail
      refine (HCP.out w2 (HA.out.below c2)).mono ?_
      rintro e w3 ⟨a', c', ys, rfl, hys, hO, hb3⟩
      have hyl := len_of_fst hys
      have HX3 := Lib.hid (blk_keep HX2.out hb3)
      have HY3 := Lib.hid (blk_keep HY2.out hb3)
      have hO3 := hO.lower c2.size
      obtain ⟨g, rfl, hBg⟩ := own_some hO3 (by omega)
      have c3 := bt c2 hb3 (Nat.le_refl _)
      have HX4 := Lib.hid (set1 HX3.out (.slice (some ⟨g, 0, none⟩) xs.length c'))
      have HY4 := Lib.hid (set_other (i := 0) HY3.out (show w.heap.size ≠ w.heap.size + 1 by omega) (.slice (some ⟨g, 0, none⟩) xs.length c'))
      have HO4 := Lib.hid (hO3.far (i := 0) HX3.out (.slice (some ⟨g, 0, none⟩) xs.length c'))
      have HC4 := Lib.hid (c3.setCell (p := ⟨w.heap.size, 0, none⟩) (Nat.le_refl _) (.slice (some ⟨g, 0, none⟩) xs.length c'))
      have x3 := cell_of HX3.out 0 _ rfl
      have xf3 := frozen_of HX3.out 0
      have x4 := cell_of HX4.out 0 _ rfl
      have HYS := Lib.hid hys
      have HDL := Lib.hid (delete_mec g c' p w.heap.size ys _ (by omega) (by omega) HO4.out.ms)
      rw [hyl] at HDL
      clear x2 y2 yf2 xf2 HX2 HY2 hO hO3 c2 hb3 HX3 HY3 c3 hys
      go_wp2_with fail
      refine HDL.out.mono ?_
      rintro e w5 ⟨rfl, ho5, hg5⟩
      have HX5 := Lib.hid (box_grown HO4.out.ms hg5 HX4.out)
      have HY5 := Lib.hid (box_grown HO4.out.ms hg5 HY4.out)
      have HRW5 := Lib.hid (rows_grown HO4.out.ms hg5 (HO4.out.rows.sub (del_sub ys p)))
      have c5 : Below w.heap.size w w5 := HC4.out.grown hg5 HC4.out.size (fun k hk => (HO4.out.ms.lt k hk).1)
      have x5 := cell_of HX5.out 0 _ rfl
      have xf5 := frozen_of HX5.out 0
      have hl5 : (ys.take p ++ ys.drop (p + 1)).length = xs.length - 1 := by rw [List.length_append, List.length_take, List.length_drop]; omega
      have HO5 := Lib.hid (show OwnM w5 w.heap.size (some ⟨g, 0, none⟩) c' (ys.take p ++ ys.drop (p + 1)) from ⟨by rw [hl5]; exact ho5, HRW5.out⟩)
      have HX6 := Lib.hid (set1 HX5.out (.slice (some ⟨g, 0, none⟩) (xs.length - 1) c'))
      have HY6 := Lib.hid (set_other (i := 0) HY5.out (show w.heap.size ≠ w.heap.size + 1 by omega) (.slice (some ⟨g, 0, none⟩) (xs.length - 1) c'))
      have HO6 := Lib.hid (HO5.out.far (i := 0) HX5.out (.slice (some ⟨g, 0, none⟩) (xs.length - 1) c'))
      have c6 := c5.setCell (p := ⟨w.heap.size, 0, none⟩) (Nat.le_refl _) (.slice (some ⟨g, 0, none⟩) (xs.length - 1) c')
      have x6 := cell_of HX6.out 0 _ rfl
      have y6 := cell_of HY6.out 0 _ rfl
      have yf6 := frozen_of HY6.out 0
      have HL5 := Lib.hid hl5
      clear ho5 hg5 HX4 HY4 HC4 x3 xf3 x4 hl5
      go_wp2_with fail
      have h7 := set1 HY6.out (.slice (some ⟨g, 0, none⟩) (xs.length - 1) c')
      have r0 := cell_of h7 0 _ rfl
      refine bodyPost_ret (v := .tuple #[.agg #[.slice (some ⟨g, 0, none⟩) (xs.length - 1) c'], .int .i64 0]) (by simp [results, Try.results15, go_sem, r0]) rfl ⟨some ⟨g, 0, none⟩, c', ys.take p ++ ys.drop (p + 1), by rw [HR3.out, HL5.out], by rw [HR3.out, fst_del, HYS.out], HO6.out.far (i := 0) HY6.out _, c6.setCell (p := ⟨w.heap.size + 1, 0, none⟩) (Nat.le_succ _) _⟩
end Go.Proofs.Ytoemjpfoddeinaa.Mb
