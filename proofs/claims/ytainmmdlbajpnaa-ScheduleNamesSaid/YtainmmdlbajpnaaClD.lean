/-
  The calendar: the walks of same and Roll.
-/
import Derived.Test.YtainmmdlbajpnaaClC
namespace Go.Proofs.Ytainmmdlbajpnaa.Sc
open Go.RowKit Go.Proofs.Ytainmmdlbajpnaa Go.Proofs.Ytainmmdlbajpnaa.Ls Go.Proofs.Ytainmmdlbajpnaa.Kb
open Go.Proofs.Ytainmmdlbajpnaa.Dt hiding ret_bool ret_int

/-- do two days have the same month? -/
def SM (a b : Int) (s : Bool) : Prop := ∃ ya ma da yb mb db, IsDate ya ma da a ∧ a ≤ 99999 ∧ IsDate yb mb db b ∧ b ≤ 99999 ∧ s = (ya == yb && ma == mb)
theorem sm_exists (a b : Int) (ha : inD a) (hb : inD b) : ∃ s, SM a b s := by
  obtain ⟨ya, ma, da, h1⟩ := date_exists a ha.1 ha.2
  obtain ⟨yb, mb, db, h2⟩ := date_exists b hb.1 hb.2
  exact ⟨_, ya, ma, da, yb, mb, db, h1, ha.2, h2, hb.2, rfl⟩

set_option maxHeartbeats 1000000 in
theorem same_mon (a b : Int) (s : Bool) (w : World) (h : SM a b s) :
    Calls Try.prog 43 #[.int .i64 a, .int .i64 b] w fun e w' => e = .returned (.bool s) ∧ Below w.heap.size w w' := by
  obtain ⟨ya, ma, da, yb, mb, db, h1, h2, h3, h4, h5⟩ := h
  have H1 := Lib.hid h1
  have H3 := Lib.hid h3
  have H5 := Lib.hid h5
  clear h1 h3 h5
  go_enter Try.func43, Try.ntmps43
  go_wp2_with fail
  refine (parts_yes ya ma da a w H1.out h2).mono ?_
  rintro e w1 ⟨rfl, hb1⟩
  go_wp2_with fail
  refine (parts_yes yb mb db b w1 H3.out h4).mono ?_
  rintro e w2 ⟨rfl, hb2⟩
  have c2 := bt hb1 hb2 (Nat.le_refl _)
  clear hb1 hb2
  go_wp2
  all_goals
    go_ret
    refine ⟨ret_bool ?_, c2⟩
    rw [H5.out]
    simp_all

/-- what Roll returns for a valid calendar, a day and a rule -/
def RollR (wk : Int) (hs : List Int) (day rule r e : Int) : Prop := ∃ (nr ne pr pe : Int) (s1 s2 : Bool), NB wk hs day 1 nr ne ∧ NB wk hs day (-1) pr pe ∧ (ne = 0 → SM nr day s1) ∧ (pe = 0 → SM pr day s2) ∧ (ne = 0 ∨ ne = 40) ∧ (pe = 0 ∨ pe = 40) ∧
  ((rule = 0 ∧ r = day ∧ e = 0) ∨ (rule = 1 ∧ r = nr ∧ e = ne) ∨ (rule = 2 ∧ r = pr ∧ e = pe) ∨ (rule = 3 ∧ ((ne = 0 ∧ s1 = true ∧ r = nr ∧ e = 0) ∨ (¬ (ne = 0 ∧ s1 = true) ∧ r = pr ∧ e = pe))) ∨
    (rule = 4 ∧ ((pe = 0 ∧ s2 = true ∧ r = pr ∧ e = 0) ∨ (¬ (pe = 0 ∧ s2 = true) ∧ r = nr ∧ e = ne))))
theorem nb_range {wk : Int} {hs : List Int} {d st r e : Int} (h : NB wk hs d st r e) : (e = 0 ∧ inD r) ∨ (e = 40 ∧ r = 0) := by
  cases h with
  | yes k h h1 h2 h3 h4 => exact .inl ⟨h4, by rw [h3]; exact h1⟩
  | no K h h1 h3 h4 => exact .inr ⟨h4, h3⟩
theorem roll_exists (wk : Int) (hs : List Int) (day rule : Int) (hd : inD day) (h0 : 0 ≤ rule) (h4 : rule ≤ 4) : ∃ r e, RollR wk hs day rule r e := by
  obtain ⟨nr, ne, hn⟩ := nb_exists wk hs day 1 (.inl rfl)
  obtain ⟨pr, pe, hp⟩ := nb_exists wk hs day (-1) (.inr rfl)
  have hs1 : ∃ s1 : Bool, ne = 0 → SM nr day s1 := by
    rcases nb_range hn with ⟨h, g⟩ | ⟨h, _⟩
    · obtain ⟨s, hs⟩ := sm_exists nr day g hd
      exact ⟨s, fun _ => hs⟩
    · exact ⟨true, fun g => by omega⟩
  have hs2 : ∃ s2 : Bool, pe = 0 → SM pr day s2 := by
    rcases nb_range hp with ⟨h, g⟩ | ⟨h, _⟩
    · obtain ⟨s, hs⟩ := sm_exists pr day g hd
      exact ⟨s, fun _ => hs⟩
    · exact ⟨true, fun g => by omega⟩
  obtain ⟨s1, hs1⟩ := hs1
  obtain ⟨s2, hs2⟩ := hs2
  have e1 : ne = 0 ∨ ne = 40 := by rcases nb_range hn with ⟨h, _⟩ | ⟨h, _⟩ <;> omega
  have e2 : pe = 0 ∨ pe = 40 := by rcases nb_range hp with ⟨h, _⟩ | ⟨h, _⟩ <;> omega
  have fin : ∀ r e, _ → ∃ r e, RollR wk hs day rule r e := fun r e h => ⟨r, e, nr, ne, pr, pe, s1, s2, hn, hp, hs1, hs2, e1, e2, h⟩
  rcases (show rule = 0 ∨ rule = 1 ∨ rule = 2 ∨ rule = 3 ∨ rule = 4 by omega) with h | h | h | h | h
  · exact fin day 0 (.inl ⟨h, rfl, rfl⟩)
  · exact fin nr ne (.inr (.inl ⟨h, rfl, rfl⟩))
  · exact fin pr pe (.inr (.inr (.inl ⟨h, rfl, rfl⟩)))
  · by_cases g : ne = 0 ∧ s1 = true
    · exact fin nr 0 (.inr (.inr (.inr (.inl ⟨h, .inl ⟨g.1, g.2, rfl, rfl⟩⟩))))
    · exact fin pr pe (.inr (.inr (.inr (.inl ⟨h, .inr ⟨g, rfl, rfl⟩⟩))))
  · by_cases g : pe = 0 ∧ s2 = true
    · exact fin pr 0 (.inr (.inr (.inr (.inr ⟨h, .inl ⟨g.1, g.2, rfl, rfl⟩⟩))))
    · exact fin nr ne (.inr (.inr (.inr (.inr ⟨h, .inr ⟨g, rfl, rfl⟩⟩))))

set_option maxRecDepth 100000 in
set_option maxHeartbeats 4000000 in
theorem roll_any (wk : Int) (a : Option Addr) (c : Nat) (hs : List Int) (day rule r e : Int) (w : World) (hL : hs.length ≤ maxLen) (hC : calOK wk hs = true) (hw : 0 ≤ wk) (hd : inD day) (hA : AtL w 1 ic a hs) (hR : RollR wk hs day rule r e) :
    Calls Try.prog 23 #[.agg #[.int .u8 wk, .slice a hs.length c], .int .i64 day, .int .u8 rule] w fun o w' => o = .returned (.tuple #[.int .i64 r, .int .i64 e]) ∧ Below w.heap.size w w' := by
  obtain ⟨nr, ne, pr, pe, s1, s2, hn, hp, hs1, hs2, he1, he2, hcase⟩ := hR
  have HN := Lib.hid (fun (w' : World) (h : AtL w' 1 ic a hs) => nth_any wk a c hs day 1 nr ne w' hC hw hd (.inl rfl) h hn)
  have HP := Lib.hid (fun (w' : World) (h : AtL w' 1 ic a hs) => nth_any wk a c hs day (-1) pr pe w' hC hw hd (.inr rfl) h hp)
  have HS1 := Lib.hid (fun (h : ne = 0) (w' : World) => same_mon nr day s1 w' (hs1 h))
  have HS2 := Lib.hid (fun (h : pe = 0) (w' : World) => same_mon pr day s2 w' (hs2 h))
  have HCK := Lib.hid (fun (w' : World) (h : AtL w' 1 ic a hs) => cal_any wk a c hs w' hL h)
  rw [hC] at HCK
  have HA := Lib.hid hA
  have HIN := Lib.hid (show (decide (0 ≤ day) && decide (day ≤ 99999)) = true by rw [decide_eq_true hd.1, decide_eq_true hd.2]; rfl)
  clear hn hp hs1 hs2 hC hA hd
  have hbo : Below w.heap.size w (w.alloc (.cells #[.int .u8 wk, .slice a hs.length c] 24)) := (Below.refl _ _).alloc (Nat.le_refl _) _
  have hx := blk_new w (.cells #[.int .u8 wk, .slice a hs.length c] 24)
  go_enter Try.func23, Try.ntmps23
  go_wp2_with fail
  generalize w.alloc _ = wo at hbo hx ⊢
  refine (HCK.out wo (HA.out.below hbo)).mono ?_
  rintro o w1 ⟨rfl, hb1⟩
  have e0 : eV true = 0 := rfl
  rw [e0]
  clear e0
  have c1 := bt hbo hb1 (Nat.le_refl _)
  have hx := blk_keep hx hb1
  have x0 := cell_of hx 0 _ rfl
  have x1 := cell_of hx 1 _ rfl
  clear hb1 hbo
  go_wp2_with fail
  refine (inside_any day w1).mono ?_
  rintro o w2 ⟨rfl, rfl⟩
  rw [HIN.out]
  have HX := Lib.hid hx
  clear hx
  rcases hcase with ⟨rfl, rfl, rfl⟩ | ⟨rfl, rfl, rfl⟩ | ⟨rfl, rfl, rfl⟩ | ⟨rfl, h3⟩ | ⟨rfl, h4⟩
  · go_wp2
    go_ret2
    exact ⟨rfl, c1⟩
  · go_wp2_with fail
    refine (HN.out w2 (HA.out.below c1)).mono ?_
    rintro o w3 ⟨rfl, hb3⟩
    go_wp2
    go_ret2
    exact ⟨rfl, bt c1 hb3 (Nat.le_refl _)⟩
  · go_wp2_with fail
    refine (HP.out w2 (HA.out.below c1)).mono ?_
    rintro o w3 ⟨rfl, hb3⟩
    go_wp2
    go_ret2
    exact ⟨rfl, bt c1 hb3 (Nat.le_refl _)⟩
  · go_wp2_with fail
    refine (HN.out w2 (HA.out.below c1)).mono ?_
    rintro o w3 ⟨rfl, hb3⟩
    have c3 := bt c1 hb3 (Nat.le_refl _)
    have HX3 := Lib.hid (blk_keep HX.out hb3)
    clear x0 x1 hb3
    have x0 := cell_of HX3.out 0 _ rfl
    have x1 := cell_of HX3.out 1 _ rfl
    have H3 := Lib.hid h3
    clear h3
    rcases he1 with rfl | rfl
    · go_wp2_with fail
      refine (HS1.out (by first | rfl | trivial) w3).mono ?_
      rintro o w4 ⟨rfl, hb4⟩
      have c4 := bt c3 hb4 (Nat.le_refl _)
      have HX4 := Lib.hid (blk_keep HX3.out hb4)
      clear x0 x1 hb4
      have x0 := cell_of HX4.out 0 _ rfl
      have x1 := cell_of HX4.out 1 _ rfl
      cases s1
      · obtain ⟨rfl, rfl⟩ : r = pr ∧ e = pe := by
          rcases H3.out with h | h
          · cases h.2.1
          · exact h.2
        go_wp2_with fail
        refine (HP.out w4 (HA.out.below c4)).mono ?_
        rintro o w5 ⟨rfl, hb5⟩
        go_wp2
        go_ret2
        exact ⟨rfl, bt c4 hb5 (Nat.le_refl _)⟩
      · obtain ⟨rfl, rfl⟩ : r = nr ∧ e = 0 := by
          rcases H3.out with h | h
          · exact h.2.2
          · exact absurd (by simp) h.1
        go_wp2
        go_ret2
        exact ⟨rfl, c4⟩
    · obtain ⟨rfl, rfl⟩ : r = pr ∧ e = pe := by
        rcases H3.out with h | h
        · cases h.1
        · exact h.2
      go_wp2_with fail
      refine (HP.out w3 (HA.out.below c3)).mono ?_
      rintro o w5 ⟨rfl, hb5⟩
      go_wp2
      go_ret2
      exact ⟨rfl, bt c3 hb5 (Nat.le_refl _)⟩
  · go_wp2_with fail
    refine (HP.out w2 (HA.out.below c1)).mono ?_
    rintro o w3 ⟨rfl, hb3⟩
    have c3 := bt c1 hb3 (Nat.le_refl _)
    have HX3 := Lib.hid (blk_keep HX.out hb3)
    clear x0 x1 hb3
    have x0 := cell_of HX3.out 0 _ rfl
    have x1 := cell_of HX3.out 1 _ rfl
    have H4 := Lib.hid h4
    clear h4
    rcases he2 with rfl | rfl
    · go_wp2_with fail
      refine (HS2.out (by first | rfl | trivial) w3).mono ?_
      rintro o w4 ⟨rfl, hb4⟩
      have c4 := bt c3 hb4 (Nat.le_refl _)
      have HX4 := Lib.hid (blk_keep HX3.out hb4)
      clear x0 x1 hb4
      have x0 := cell_of HX4.out 0 _ rfl
      have x1 := cell_of HX4.out 1 _ rfl
      cases s2
      · obtain ⟨rfl, rfl⟩ : r = nr ∧ e = ne := by
          rcases H4.out with h | h
          · cases h.2.1
          · exact h.2
        go_wp2_with fail
        refine (HN.out w4 (HA.out.below c4)).mono ?_
        rintro o w5 ⟨rfl, hb5⟩
        go_wp2
        go_ret2
        exact ⟨rfl, bt c4 hb5 (Nat.le_refl _)⟩
      · obtain ⟨rfl, rfl⟩ : r = pr ∧ e = 0 := by
          rcases H4.out with h | h
          · exact h.2.2
          · exact absurd (by simp) h.1
        go_wp2
        go_ret2
        exact ⟨rfl, c4⟩
    · obtain ⟨rfl, rfl⟩ : r = nr ∧ e = ne := by
        rcases H4.out with h | h
        · cases h.1
        · exact h.2
      go_wp2_with fail
      refine (HN.out w3 (HA.out.below c3)).mono ?_
      rintro o w5 ⟨rfl, hb5⟩
      go_wp2
      go_ret2
      exact ⟨rfl, bt c3 hb5 (Nat.le_refl _)⟩

end Go.Proofs.Ytainmmdlbajpnaa.Sc
