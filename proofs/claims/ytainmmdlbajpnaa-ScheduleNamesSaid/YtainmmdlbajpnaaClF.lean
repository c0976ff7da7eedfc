/-
  The reference's calendar: the walk of Roll.
-/
import Derived.Test.YtainmmdlbajpnaaClE
namespace Go.Proofs.Ytainmmdlbajpnaa.Sc
open Go.RowKit Go.Proofs.Ytainmmdlbajpnaa Go.Proofs.Ytainmmdlbajpnaa.Ls Go.Proofs.Ytainmmdlbajpnaa.Kb
open Go.Proofs.Ytainmmdlbajpnaa.Dt hiding ret_bool ret_int

set_option maxRecDepth 100000 in
set_option maxHeartbeats 4000000 in
theorem rroll_any (wk : Int) (a : Option Addr) (c : Nat) (hs : List Int) (day rule r e : Int) (w : World) (hL : hs.length ≤ maxLen) (hC : calOK wk hs = true) (hw : 0 ≤ wk) (hd : inD day) (hA : AtL w 1 ic a hs) (hR : RollR wk hs day rule r e) :
    Calls Try.prog 37 #[.agg #[.int .u8 wk, .slice a hs.length c], .int .i64 day, .int .u8 rule] w fun o w' => o = .returned (.tuple #[.int .i64 r, .int .i64 e]) ∧ Below w.heap.size w w' := by
  obtain ⟨nr, ne, pr, pe, s1, s2, hn, hp, hs1, hs2, he1, he2, hcase⟩ := hR
  have HN := Lib.hid (fun (w' : World) (h : AtL w' 1 ic a hs) => rwalk_any wk a c hs day 1 nr ne w' hC hw hd (.inl rfl) h hn)
  have HP := Lib.hid (fun (w' : World) (h : AtL w' 1 ic a hs) => rwalk_any wk a c hs day (-1) pr pe w' hC hw hd (.inr rfl) h hp)
  have HS1 := Lib.hid (fun (h : ne = 0) (w' : World) => rmonth_any nr day s1 w' (hs1 h))
  have HS2 := Lib.hid (fun (h : pe = 0) (w' : World) => rmonth_any pr day s2 w' (hs2 h))
  have HCK := Lib.hid (fun (w' : World) (h : AtL w' 1 ic a hs) => rcal_any wk a c hs w' hL h)
  rw [hC] at HCK
  have HA := Lib.hid hA
  have HIN := Lib.hid (show (decide (0 ≤ day) && decide (day ≤ 99999)) = true by rw [decide_eq_true hd.1, decide_eq_true hd.2]; rfl)
  clear hn hp hs1 hs2 hC hA hd
  have hbo : Below w.heap.size w (w.alloc (.cells #[.int .u8 wk, .slice a hs.length c] 24)) := (Below.refl _ _).alloc (Nat.le_refl _) _
  have hx := blk_new w (.cells #[.int .u8 wk, .slice a hs.length c] 24)
  have hrule : 0 ≤ rule ∧ rule ≤ 4 := by omega
  go_enter Try.func37, Try.ntmps37
  have HCS := Lib.hid hcase
  clear hcase
  have x0 := cell_of hx 0 _ rfl
  have x1 := cell_of hx 1 _ rfl
  go_wp2_with fail
  generalize w.alloc _ = wo at hbo hx x0 x1 ⊢
  refine (HCK.out wo (HA.out.below hbo)).mono ?_
  rintro o w1 ⟨rfl, hb1⟩
  have c1 := bt hbo hb1 (Nat.le_refl _)
  have hx := blk_keep hx hb1
  clear x0 x1
  have x0 := cell_of hx 0 _ rfl
  have x1 := cell_of hx 1 _ rfl
  clear hb1 hbo
  go_wp2_with fail
  refine (rday_any day _ HIN.out w1).mono ?_
  rintro o w2 ⟨rfl, rfl⟩
  go_wp2_with fail
  refine (HN.out w1 (HA.out.below c1)).mono ?_
  rintro o w3 ⟨rfl, hb3⟩
  have c3 := bt c1 hb3 (Nat.le_refl _)
  have hx := blk_keep hx hb3
  clear x0 x1 hb3
  have x0 := cell_of hx 0 _ rfl
  have x1 := cell_of hx 1 _ rfl
  go_wp2_with fail
  refine (HP.out w3 (HA.out.below c3)).mono ?_
  rintro o w4 ⟨rfl, hb4⟩
  have c4 := bt c3 hb4 (Nat.le_refl _)
  clear x0 x1 hb4 hx c1 c3
  rcases HCS.out with ⟨rfl, rfl, rfl⟩ | ⟨rfl, rfl, rfl⟩ | ⟨rfl, rfl, rfl⟩ | ⟨rfl, h3⟩ | ⟨rfl, h4⟩
  · go_wp2
    go_ret2
    exact ⟨rfl, c4⟩
  · go_wp2
    go_ret2
    exact ⟨rfl, c4⟩
  · go_wp2
    go_ret2
    exact ⟨rfl, c4⟩
  · have H3 := Lib.hid h3
    clear h3 HCS
    rcases he1 with rfl | rfl
    · go_wp2_with fail
      refine (HS1.out (by first | rfl | trivial) w4).mono ?_
      rintro o w5 ⟨rfl, rfl⟩
      cases s1
      · obtain ⟨rfl, rfl⟩ : r = pr ∧ e = pe := by
          rcases H3.out with h | h
          · cases h.2.1
          · exact h.2
        go_wp2
        go_ret2
        exact ⟨rfl, c4⟩
      · obtain ⟨rfl, rfl⟩ : r = nr ∧ e = 0 := by
          rcases H3.out with h | h
          · exact h.2.2
          · exact absurd (by simp) h.1
        go_wp2
        go_ret2
        exact ⟨rfl, c4⟩
    · obtain ⟨rfl, rfl⟩ : r = pr ∧ e = pe := by
        rcases H3.out with h | h
        · cases h.1
        · exact h.2
      go_wp2
      go_ret2
      exact ⟨rfl, c4⟩
  · have H4 := Lib.hid h4
    clear h4 HCS
    rcases he2 with rfl | rfl
    · go_wp2_with fail
      refine (HS2.out (by first | rfl | trivial) w4).mono ?_
      rintro o w5 ⟨rfl, rfl⟩
      cases s2
      · obtain ⟨rfl, rfl⟩ : r = nr ∧ e = ne := by
          rcases H4.out with h | h
          · cases h.2.1
          · exact h.2
        go_wp2
        go_ret2
        exact ⟨rfl, c4⟩
      · obtain ⟨rfl, rfl⟩ : r = pr ∧ e = 0 := by
          rcases H4.out with h | h
          · exact h.2.2
          · exact absurd (by simp) h.1
        go_wp2
        go_ret2
        exact ⟨rfl, c4⟩
    · obtain ⟨rfl, rfl⟩ : r = nr ∧ e = ne := by
        rcases H4.out with h | h
        · cases h.1
        · exact h.2
      go_wp2
      go_ret2
      exact ⟨rfl, c4⟩

end Go.Proofs.Ytainmmdlbajpnaa.Sc
