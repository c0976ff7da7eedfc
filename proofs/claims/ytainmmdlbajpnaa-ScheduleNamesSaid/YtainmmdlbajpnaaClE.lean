/-
  The reference's calendar: the walks of rest, Open, Walk, month, Roll.
-/
import Derived.Test.YtainmmdlbajpnaaClD
import Derived.Test.YtainmmdlbajpnaaCrV
namespace Go.Proofs.Ytainmmdlbajpnaa.Sc
open Go.RowKit Go.Proofs.Ytainmmdlbajpnaa Go.Proofs.Ytainmmdlbajpnaa.Ls Go.Proofs.Ytainmmdlbajpnaa.Kb
open Go.Proofs.Ytainmmdlbajpnaa.Dt hiding ret_bool ret_int

set_option maxHeartbeats 1000000 in
theorem rest_any (wk z : Int) (w : World) (h0 : 0 ≤ wk) (h1 : wk < 127) (hz : 0 ≤ z) (hz7 : z < 7) :
    Calls Try.prog 68 #[.int .u8 wk, .int .i64 z] w fun e w' => e = .returned (.bool (!decide (wk / 2 ^ z.toNat % 2 = 0))) ∧ w = w' := by
  go_enter Try.func68, Try.ntmps68
  go_wp2_with fail
  go_loop [5, 6] (fun n i => ∃ k : Nat, (k : Int) ≤ z ∧ i = .int .i64 k ∧ n = .int .i64 (wk / 2 ^ k)) (fun _ i => (z - intOf i).toNat)
  case atStart => exact ⟨0, by omega, rfl, by simp⟩
  case round =>
    obtain ⟨k, hk, rfl, rfl⟩ := hrel
    have hb1 : 0 ≤ wk / 2 ^ k := Int.ediv_nonneg h0 (Int.pow_nonneg (by omega))
    have hb2 : wk / 2 ^ k ≤ wk := Int.ediv_le_self _ h0
    have HP : Hid (wk / 2 ^ k / 2 = wk / 2 ^ (k + 1)) := by
      unfold Hid
      rw [Int.pow_succ, Int.ediv_ediv_of_nonneg (Int.pow_nonneg (by omega))]
    by_cases hlt : (k : Int) < z
    · generalize wk / 2 ^ k = q at *
      go_wp2
      go_round
      case rel => exact ⟨k + 1, by omega, by go_num, by rw [HP.out]⟩
      case measure => simp [intOf]; omega
    · obtain rfl : z = k := by omega
      generalize hq : wk / 2 ^ k = q at *
      have HQ2 := Lib.hid hq
      clear hq
      go_wp2
      go_ret
      refine ⟨ret_bool ?_, rfl⟩
      rw [Bool.eq_iff_iff]
      simp
      rw [HQ2.out]
      omega

set_option maxRecDepth 100000 in
set_option maxHeartbeats 1000000 in
theorem ropen_any (wk : Int) (a : Option Addr) (c : Nat) (hs : List Int) (d : Int) (w : World) (hC : calOK wk hs = true) (hw : 0 ≤ wk) (hd : 0 ≤ d) (hA : AtL w 1 ic a hs) :
    Calls Try.prog 64 #[.agg #[.int .u8 wk, .slice a hs.length c], .int .i64 d] w fun e w' => e = .returned (.bool (opB wk hs d)) ∧ Below w.heap.size w w' := by
  obtain ⟨hP, hk, hn, _⟩ := cal_sorted hC
  have HA := Lib.hid hA
  have HP := Lib.hid hP
  have HO := Lib.hid (show opB wk hs d = (!hs.contains d && decide (wk / 2 ^ (d % 7).toNat % 2 = 0)) from rfl)
  have HRS := Lib.hid (fun w => rest_any wk (d % 7) w hw hk (by omega) (by omega))
  generalize decide (wk / 2 ^ (d % 7).toNat % 2 = 0) = rb at HO HRS
  generalize opB wk hs d = ob at HO ⊢
  have hbo : Below w.heap.size w (w.alloc (.cells #[.int .u8 wk, .slice a hs.length c] 24)) := (Below.refl _ _).alloc (Nat.le_refl _) _
  have hx := blk_new w (.cells #[.int .u8 wk, .slice a hs.length c] 24)
  clear hA hP hC
  go_enter Try.func64, Try.ntmps64
  go_wp2_with fail
  generalize w.alloc _ = wo at hbo hx ⊢
  refine Calls.mono (HRS.out wo) ?_
  rintro e w1 ⟨rfl, rfl⟩
  have x1 := cell_of hx 1 _ rfl
  have HA1 := Lib.hid (HA.out.below hbo)
  clear hx
  cases rb
  · go_wp2
    go_ret
    exact ⟨ret_bool (by rw [HO.out, Bool.and_false]), hbo⟩
  · go_wp2_with fail
    go_loopw [5] (fun i wr => ∃ k : Nat, k ≤ hs.length ∧ i = .int .i64 k ∧ Hid (∀ t, t < k → hs.getD t 0 < d) ∧ wo = wr) (fun i _ => hs.length - (intOf i).toNat)
    case atStart => exact ⟨0, by omega, rfl, fun t ht => by omega, rfl⟩
    case round =>
      obtain ⟨k, hk2, rfl, HT, rfl⟩ := hrel
      have hnot : (∀ t, k ≤ t → t < hs.length → d < hs.getD t 0) → hs.contains d = false := fun h => by
        rw [Bool.eq_false_iff]
        intro hm
        rw [List.contains_iff_mem] at hm
        obtain ⟨j, hj, he⟩ := List.mem_iff_getElem.1 hm
        have he' : hs.getD j 0 = d := by rw [List.getD_eq_getElem?_getD, List.getElem?_eq_getElem hj]; exact he
        rcases Nat.lt_or_ge j k with g | g
        · have := HT.out j g
          omega
        · have := h j g hj
          omega
      have HNT := Lib.hid hnot
      clear hnot
      rcases Nat.lt_or_ge k hs.length with g | g
      · have hg : (k : Int) < hs.length := by omega
        obtain ⟨b, off, rfl, q⟩ := at_int HA1.out k g
        have hup : ∀ t, k < t → t < hs.length → hs.getD k 0 < hs.getD t 0 := fun t h1 h2 => by
          have := List.pairwise_iff_getElem.1 HP.out k t g h2 h1
          rw [List.getD_eq_getElem?_getD, List.getD_eq_getElem?_getD, List.getElem?_eq_getElem g, List.getElem?_eq_getElem h2]
          exact this
        have HUP := Lib.hid hup
        have HEL : Hid (hs.contains (hs.getD k 0) = true) := by
          unfold Hid
          rw [List.contains_iff_mem, List.getD_eq_getElem?_getD, List.getElem?_eq_getElem g]
          exact List.getElem_mem _
        clear hup
        generalize hX : hs.getD k 0 = X at *
        have HX2 := Lib.hid hX
        clear hX
        by_cases h1 : X ≤ d
        · by_cases h2 : X = d
          · subst h2
            go_wp2
            go_ret
            exact ⟨ret_bool (by rw [HO.out, HEL.out]; rfl), hbo⟩
          · have h3 : (X == d) = false := by rw [beq_eq_false_iff_ne]; exact h2
            go_wp2
            go_roundw
            case rel =>
              refine ⟨k + 1, by omega, by go_num, fun t ht => ?_, trivial⟩
              rcases Nat.lt_or_ge t k with h | h
              · exact HT.out t h
              · obtain rfl : t = k := by omega
                rw [HX2.out]
                omega
            case measure => simp [intOf]; omega
        · have HNC : Hid (hs.contains d = false) := HNT.out (fun t h h' => by
            rcases Nat.lt_or_ge k t with g2 | g2
            · have := HUP.out t g2 h'
              omega
            · obtain rfl : t = k := by omega
              rw [HX2.out]
              omega)
          go_wp2
          go_ret
          exact ⟨ret_bool (by rw [HO.out, HNC.out]; rfl), hbo⟩
      · obtain rfl : k = hs.length := by omega
        have HNC : Hid (hs.contains d = false) := HNT.out (fun t h h' => by omega)
        go_wp2
        go_ret
        exact ⟨ret_bool (by rw [HO.out, HNC.out]; rfl), hbo⟩

theorem nb_at {wk : Int} {hs : List Int} {d st r e : Int} (h : NB wk hs d st r e) (j : Nat) (hp : ∀ t : Nat, t < j → inD (d + t * st) ∧ opB wk hs (d + t * st) = false) (h1 : inD (d + j * st)) (h2 : opB wk hs (d + j * st) = true) : r = d + j * st ∧ e = 0 := by
  cases h with
  | yes k g g1 g2 g3 g4 =>
    rcases Nat.lt_trichotomy j k with x | x | x
    · exact absurd h2 (by rw [(g j x).2]; simp)
    · subst x
      exact ⟨g3, g4⟩
    · exact absurd g2 (by rw [(hp k x).2]; simp)
  | no K g g1 g3 g4 =>
    rcases Nat.lt_trichotomy j K with x | x | x
    · exact absurd h2 (by rw [(g j x).2]; simp)
    · subst x
      exact absurd h1 g1
    · exact absurd (hp K x).1 g1
theorem nb_end {wk : Int} {hs : List Int} {d st r e : Int} (h : NB wk hs d st r e) (j : Nat) (hp : ∀ t : Nat, t < j → inD (d + t * st) ∧ opB wk hs (d + t * st) = false) (h1 : ¬ inD (d + j * st)) : r = 0 ∧ e = 40 := by
  cases h with
  | yes k g g1 g2 g3 g4 =>
    rcases Nat.lt_trichotomy j k with x | x | x
    · exact absurd (g j x).1 h1
    · subst x
      exact absurd g1 h1
    · exact absurd g2 (by rw [(hp k x).2]; simp)
  | no K g g1 g3 g4 => exact ⟨g3, g4⟩

set_option maxRecDepth 100000 in
set_option maxHeartbeats 1000000 in
theorem rwalk_any (wk : Int) (a : Option Addr) (c : Nat) (hs : List Int) (d st r e0 : Int) (w : World) (hC : calOK wk hs = true) (hw : 0 ≤ wk) (_hd : inD d) (hst : st = 1 ∨ st = -1) (hA : AtL w 1 ic a hs) (hN : NB wk hs d st r e0) :
    Calls Try.prog 54 #[.agg #[.int .u8 wk, .slice a hs.length c], .int .i64 d, .int .i64 st, .int .i64 1] w fun e w' => e = .returned (.tuple #[.int .i64 r, .int .i64 e0]) ∧ Below w.heap.size w w' := by
  obtain ⟨K, hKK, hK, hK2⟩ := out_exists d st hst
  have HK := Lib.hid (And.intro hK hK2)
  have HNA := Lib.hid (fun j => nb_at hN j)
  have HNE := Lib.hid (fun j => nb_end hN j)
  have HOP := Lib.hid (fun (q : Int) (w' : World) (h0 : 0 ≤ q) (h : AtL w' 1 ic a hs) => ropen_any wk a c hs q w' hC hw h0 h)
  have HA := Lib.hid hA
  have HST : Hid (st * st = 1) := by
    unfold Hid
    rcases hst with rfl | rfl <;> rfl
  have hst2 : -1 ≤ st ∧ st ≤ 1 := by omega
  clear hK hK2 hN hC hA hst hKK
  have hbo : Below w.heap.size w (w.alloc (.cells #[.int .u8 wk, .slice a hs.length c] 24)) := (Below.refl _ _).alloc (Nat.le_refl _) _
  have hx := blk_new w (.cells #[.int .u8 wk, .slice a hs.length c] 24)
  go_enter Try.func54, Try.ntmps54
  go_wp2_with fail
  generalize w.alloc _ = wo at hbo hx ⊢
  have HX := Lib.hid hx
  clear hx
  go_loopw [1, 3] (fun p n wr => ∃ j : Nat, j ≤ K ∧ p = .int .i64 (d + (j : Int) * st) ∧ n = .int .i64 1 ∧ Hid (∀ t : Nat, t < j → inD (d + t * st) ∧ opB wk hs (d + t * st) = false) ∧ Below w.heap.size w wr ∧ Below wo.heap.size wo wr) (fun p _ _ => K - ((intOf p - d) * st).toNat)
  case atStart => exact ⟨0, by omega, by simp, rfl, fun t ht => by omega, hbo, Below.refl _ _⟩
  case round =>
    obtain ⟨j, hj, rfl, rfl, HP, hbw, hbx⟩ := hrel
    have x0 := cell_of (blk_keep HX.out hbx) 0 _ rfl
    have x1 := cell_of (blk_keep HX.out hbx) 1 _ rfl
    have HM : Hid (K - ((d + (j : Int) * st - d) * st).toNat = K - j) := by
      unfold Hid
      rw [show d + (j : Int) * st - d = (j : Int) * st by omega, Int.mul_assoc, HST.out]
      simp
    have HN2 : Hid (d + (j : Int) * st + st = d + ((j + 1 : Nat) : Int) * st) := by
      unfold Hid
      rw [show ((j + 1 : Nat) : Int) = (j : Int) + 1 by omega, Int.add_mul]
      omega
    have HNA1 := Lib.hid (HNA.out j HP.out)
    have HNE1 := Lib.hid (HNE.out j HP.out)
    rcases Nat.lt_or_ge j K with hlt | hge
    · have hin := HK.out.1 j hlt
      have HI := Lib.hid hin
      unfold inD at hin
      have HIN := Lib.hid (show (decide (0 ≤ d + (j : Int) * st) && decide (d + (j : Int) * st ≤ 99999)) = true by rw [decide_eq_true hin.1, decide_eq_true hin.2]; rfl)
      generalize hq : d + (j : Int) * st = q at *
      have HQ := Lib.hid hq
      clear hq
      go_wp2_with fail
      refine (rday_any q _ HIN.out wr).mono ?_
      rintro o w1 ⟨rfl, rfl⟩
      go_wp2_with fail
      refine (HOP.out q wr hin.1 (HA.out.below hbw)).mono ?_
      rintro o w2 ⟨rfl, hb2⟩
      have c2 := bt hbw hb2 (Nat.le_refl _)
      have d2 := bt hbx hb2 (Nat.le_refl _)
      rcases hb (opB wk hs q) with ho | ho
      · obtain ⟨hr, he⟩ := HNA1.out HI.out ho
        rw [ho]
        clear ho
        subst hr
        subst he
        go_wp2
        go_ret2
        exact ⟨rfl, c2⟩
      · have HO := Lib.hid ho
        rw [ho]
        clear ho
        go_wp2
        go_roundw
        case rel =>
          refine ⟨j + 1, by omega, by rw [HN2.out], rfl, fun t ht => ?_, c2, d2⟩
          rcases Nat.lt_or_ge t j with g | g
          · exact HP.out t g
          · obtain rfl : t = j := by omega
            rw [HQ.out]
            exact ⟨HI.out, HO.out⟩
        case measure =>
          have e2 : ((d + ((j + 1 : Nat) : Int) * st - d) * st).toNat = j + 1 := by
            rw [show d + ((j + 1 : Nat) : Int) * st - d = ((j + 1 : Nat) : Int) * st by omega, Int.mul_assoc, HST.out]
            simp
          simp only [intOf]
          rw [HN2.out, e2, HM.out]
          omega
    · obtain rfl : j = K := by omega
      obtain ⟨hr, he⟩ := HNE1.out HK.out.2
      subst hr
      subst he
      have hin := HK.out.2
      unfold inD at hin
      have HIN := Lib.hid (show (decide (0 ≤ d + (j : Int) * st) && decide (d + (j : Int) * st ≤ 99999)) = false by
        rw [Bool.and_eq_false_iff, decide_eq_false_iff_not, decide_eq_false_iff_not]
        omega)
      go_wp2_with fail
      refine (rday_any _ _ HIN.out wr).mono ?_
      rintro o w1 ⟨rfl, rfl⟩
      go_wp2
      go_ret2
      exact ⟨rfl, hbw⟩

set_option maxHeartbeats 1000000 in
theorem rmonth_any (a b : Int) (s : Bool) (w : World) (h : SM a b s) :
    Calls Try.prog 55 #[.int .i64 a, .int .i64 b] w fun e w' => e = .returned (.bool s) ∧ w = w' := by
  obtain ⟨ya, ma, da, yb, mb, db, h1, h2, h3, h4, h5⟩ := h
  have H1 := Lib.hid h1
  have H3 := Lib.hid h3
  have H5 := Lib.hid h5
  clear h1 h3 h5
  go_enter Try.func55, Try.ntmps55
  go_wp2_with fail
  refine (rparts_yes ya ma da a w H1.out h2).mono ?_
  rintro e w1 ⟨rfl, rfl⟩
  go_wp2_with fail
  refine (rparts_yes yb mb db b w H3.out h4).mono ?_
  rintro e w2 ⟨rfl, rfl⟩
  go_wp2
  all_goals
    go_ret
    refine ⟨ret_bool ?_, rfl⟩
    rw [H5.out]
    simp_all

end Go.Proofs.Ytainmmdlbajpnaa.Sc
