/-
  The walk of the law ScheduleStubs.
-/
import Derived.Test.YtainmmdlbajpnaaScK
import Derived.Deep.CutRange
namespace Go.Proofs.Ytainmmdlbajpnaa.Sc
open Go.RowKit Go.Proofs.Ytainmmdlbajpnaa Go.Proofs.Ytainmmdlbajpnaa.Ls Go.Proofs.Ytainmmdlbajpnaa.Kb
open Go.Proofs.Ytainmmdlbajpnaa.Dt hiding ret_bool ret_int

theorem set5 {w : World} {B : Nat} {a0 a1 a2 a3 a4 a5 a6 a7 a8 : Value} {t : TypeId} (h : w.heap[B]? = some (.cells #[a0, a1, a2, a3, a4, a5, a6, a7, a8] t (0, 0))) (x : Value) :
    (w.setCell ⟨B, 5, none⟩ x).heap[B]? = some (.cells #[a0, a1, a2, a3, a4, x, a6, a7, a8] t (0, 0)) := by
  simp [World.setCell, Array.getElem?_modify, h]
theorem far_set5 {w : World} {B C : Nat} {o : Obj} (h : w.heap[C]? = some o) (hne : C ≠ B) (x : Value) : (w.setCell ⟨B, 5, none⟩ x).heap[C]? = some o := by
  rw [Below.heap_setCell w ⟨B, 5, none⟩ x C hne, h]
theorem keepc {w w' : World} {p : Addr} {v : Value} (h : w.cell? p = some v) (hb : Below w.heap.size w w') : w'.cell? p = some v := (hb.cell (World.block_lt_of_cell? w p h)).trans h

theorem take_getD' (L : List Int) (k : Nat) (h : k < L.length) : L.take (k + 1) = L.take k ++ [L.getD k 0] := by
  rw [List.take_succ_eq_append_getElem h, List.getD_eq_getElem?_getD, List.getElem?_eq_getElem h]
  rfl
/-- a list without one of its places, built up -/
theorem er_same (L : List Int) (k q : Nat) (h : k < L.length) (hk : k = q) : (L.take (k + 1)).eraseIdx q = (L.take k).eraseIdx q := by
  subst hk
  rw [take_getD' L k h, List.eraseIdx_append_of_length_le (by rw [List.length_take]; omega)]
  rw [show k - (L.take k).length = 0 by rw [List.length_take]; omega]
  rw [List.eraseIdx_of_length_le (l := L.take k) (by rw [List.length_take]; omega)]
  simp
theorem er_more (L : List Int) (k q : Nat) (h : k < L.length) (hk : k ≠ q) : (L.take (k + 1)).eraseIdx q = (L.take k).eraseIdx q ++ [L.getD k 0] := by
  rw [take_getD' L k h]
  rcases Nat.lt_or_ge q k with g | g
  · rw [List.eraseIdx_append_of_lt_length (by rw [List.length_take]; omega)]
  · rw [List.eraseIdx_append_of_length_le (by rw [List.length_take]; omega), List.eraseIdx_of_length_le (l := L.take k) (by rw [List.length_take]; omega), List.eraseIdx_of_length_le (l := [L.getD k 0]) (by rw [List.length_take, List.length_singleton]; omega)]

/-- the last inner day left out -/
theorem er_dL (s : Sch) (y m d : Int) (n : Nat) : (dL s y m d (n + 1)).eraseIdx (if s.back then 1 else n + 1) = dL s y m d n := by
  unfold dL datesL
  have hi : innerL y m d s.step s.last (n + 1) = innerL y m d s.step s.last n ++ [vk y m d s.step s.last (n + 1)] := by
    unfold innerL
    rw [List.range_succ, List.map_append]
    rfl
  cases s.back
  · rw [if_neg (by simp), if_neg (by simp), if_neg (by simp), List.eraseIdx_cons_succ, hi, List.append_assoc, List.eraseIdx_append_of_length_le (by rw [len_innerL]; exact Nat.le_refl _), len_innerL]
    simp
  · rw [if_pos rfl, if_pos rfl, if_pos rfl, hi, List.reverse_append]
    rfl

/-- with another stub -/
def Sch.with (s : Sch) (b : Int) : Sch := { s with stub := b }
theorem sch_with (s : Sch) (b : Int) (h0 : b ≤ 1) : schOK (s.with b) = schOK (s.with 0) := by
  unfold schOK Sch.with
  simp only
  congr 1
  rw [decide_eq_decide]
  omega

/-- the two descriptions side by side -/
theorem stubs_cases (s : Sch) : (∃ La ga Lb gb, DRes (s.with 0) La ga ∧ DRes (s.with 1) Lb gb ∧ ga ≠ 0 ∧ La.length ≤ 100 ∧ Lb.length ≤ 100) ∨ (∃ y m d N, DYes (s.with 0) y m d N ∧ DYes (s.with 1) y m d N ∧ N + 2 ≤ 100) := by
  rcases hb (schOK (s.with 0)) with hok | hok
  · obtain ⟨y, m, d, N, hY⟩ := dyes_exists (s.with 0) hok
    have hY1 : DYes (s.with 1) y m d N := ⟨(sch_with s 1 (by omega)).trans hok, hY.dt, hY.ct, hY.n⟩
    have hk : kn (s.with 0) y m d N = N := by
      unfold kn kept Sch.with
      simp
    by_cases hN : N + 2 ≤ 100
    · exact .inr ⟨y, m, d, N, hY, hY1, hN⟩
    · left
      by_cases hk1 : kn (s.with 1) y m d N + 2 ≤ 100
      · exact ⟨[], 4, _, 0, .inr ⟨y, m, d, N, hY, .inr ⟨by omega, rfl, rfl⟩⟩, .inr ⟨y, m, d, N, hY1, .inl ⟨hk1, rfl, rfl⟩⟩, by omega, by simp, by rw [dl_len]; exact hk1⟩
      · exact ⟨[], 4, [], 4, .inr ⟨y, m, d, N, hY, .inr ⟨by omega, rfl, rfl⟩⟩, .inr ⟨y, m, d, N, hY1, .inr ⟨by omega, rfl, rfl⟩⟩, by omega, by simp, by simp⟩
  · exact .inl ⟨[], 8, [], 8, .inl ⟨hok, rfl, rfl⟩, .inl ⟨(sch_with s 1 (by omega)).trans hok, rfl, rfl⟩, by omega, by simp, by simp⟩
theorem SchAt.with {w : World} {s : Sch} (h : SchAt w s) (b : Int) : SchAt w (s.with b) := ⟨h.len, h.at', h.sm⟩

set_option maxRecDepth 100000 in
set_option maxHeartbeats 4000000 in
theorem stubs_no (s : Sch) (La Lb : List Int) (ga gb : Int) {w : World} (hS : SchAt w s) (hRa : DRes (s.with 0) La ga) (hRb : DRes (s.with 1) Lb gb) (hga : ga ≠ 0) (hla : La.length ≤ 100) (hlb : Lb.length ≤ 100) :
    Calls Try.prog 4 #[.agg s.cells] w fun e w' => e = .returned (.bool true) ∧ Below w.heap.size w w' := by
  have HDA := Lib.hid (fun (w' : World) (h : SchAt w' (s.with 0)) => dates_any (s.with 0) La ga w' h hRa)
  have HDB := Lib.hid (fun (w' : World) (h : SchAt w' (s.with 1)) => dates_any (s.with 1) Lb gb w' h hRb)
  have HSA := Lib.hid (hS.with 0)
  have HSB := Lib.hid (hS.with 1)
  have hlen := hS.len
  have hla2 : (La.length : Int) ≤ 100 := by omega
  have hlb2 : (Lb.length : Int) ≤ 100 := by omega
  have hga2 : (ga == 0) = false := by rw [beq_eq_false_iff_ne]; exact hga
  clear hS hRa hRb hla hlb
  obtain ⟨S, E, Mo, back, last, stub, roll, wk, a, c, hs⟩ := s
  simp only [Sch.with] at *
  have hx := blk_new w (.cells #[.int .i64 S, .int .i64 E, .int .i64 Mo, .bool back, .bool last, .int .u8 stub, .int .u8 roll, .int .u8 wk, .slice a hs.length c] 26)
  have hbo : Below w.heap.size w (w.alloc (.cells #[.int .i64 S, .int .i64 E, .int .i64 Mo, .bool back, .bool last, .int .u8 stub, .int .u8 roll, .int .u8 wk, .slice a hs.length c] 26)) := (Below.refl _ _).alloc (Nat.le_refl _) _
  simp only [Sch.cells] at *
  go_enter Try.func4, Try.ntmps4
  go_wp2_with fail
  generalize w.alloc _ = wo at hx hbo ⊢
  refine (alive_any wo).mono ?_
  rintro e w1 ⟨rfl, hb1⟩
  have hx := blk_keep hx hb1
  have c1 := bt hbo hb1 (Nat.le_refl _)
  have x7 := cell_of hx 7 _ rfl
  have x8 := cell_of hx 8 _ rfl
  go_wp2_with fail
  refine (great_any wk a hs.length c w1 hlen).mono ?_
  rintro e w2 ⟨rfl, hb2⟩
  have hx := blk_keep hx hb2
  have c2 := bt c1 hb2 (Nat.le_refl _)
  clear x7 x8 hb1 hb2 hbo
  rcases hb (greatB hs.length) with hg | hg
  · rw [hg]
    clear hg
    go_wp2
    go_ret
    exact ⟨rfl, c2⟩
  rw [hg]
  clear hg
  have x0 := cell_of hx 0 _ rfl
  have x1 := cell_of hx 1 _ rfl
  have x2 := cell_of hx 2 _ rfl
  have x3 := cell_of hx 3 _ rfl
  have x4 := cell_of hx 4 _ rfl
  have x5 := cell_of hx 5 _ rfl
  have x6 := cell_of hx 6 _ rfl
  have x7 := cell_of hx 7 _ rfl
  have x8 := cell_of hx 8 _ rfl
  have xa0 := fun o => keepc x0 ((Below.refl _ _).alloc (Nat.le_refl _) o)
  have xb0 := fun o o' => keepc (xa0 o) ((Below.refl _ _).alloc (Nat.le_refl _) o')
  have xa1 := fun o => keepc x1 ((Below.refl _ _).alloc (Nat.le_refl _) o)
  have xb1 := fun o o' => keepc (xa1 o) ((Below.refl _ _).alloc (Nat.le_refl _) o')
  have xa2 := fun o => keepc x2 ((Below.refl _ _).alloc (Nat.le_refl _) o)
  have xb2 := fun o o' => keepc (xa2 o) ((Below.refl _ _).alloc (Nat.le_refl _) o')
  have xa3 := fun o => keepc x3 ((Below.refl _ _).alloc (Nat.le_refl _) o)
  have xb3 := fun o o' => keepc (xa3 o) ((Below.refl _ _).alloc (Nat.le_refl _) o')
  have xa4 := fun o => keepc x4 ((Below.refl _ _).alloc (Nat.le_refl _) o)
  have xb4 := fun o o' => keepc (xa4 o) ((Below.refl _ _).alloc (Nat.le_refl _) o')
  have xa5 := fun o => keepc x5 ((Below.refl _ _).alloc (Nat.le_refl _) o)
  have xb5 := fun o o' => keepc (xa5 o) ((Below.refl _ _).alloc (Nat.le_refl _) o')
  have xa6 := fun o => keepc x6 ((Below.refl _ _).alloc (Nat.le_refl _) o)
  have xb6 := fun o o' => keepc (xa6 o) ((Below.refl _ _).alloc (Nat.le_refl _) o')
  have xa7 := fun o => keepc x7 ((Below.refl _ _).alloc (Nat.le_refl _) o)
  have xb7 := fun o o' => keepc (xa7 o) ((Below.refl _ _).alloc (Nat.le_refl _) o')
  have xa8 := fun o => keepc x8 ((Below.refl _ _).alloc (Nat.le_refl _) o)
  have xb8 := fun o o' => keepc (xa8 o) ((Below.refl _ _).alloc (Nat.le_refl _) o')
  have HX2 := Lib.hid hx
  have hlt2 : w.heap.size < w2.heap.size := blk_lt hx
  clear hx
  go_upto_region 4 with fail
  go_cut [4, 5] from 28 to 29 (fun u v wc => ∃ p q : Nat, u = .pointer (some ⟨p, 0, none⟩) ∧ v = .pointer (some ⟨q, 0, none⟩) ∧ p ≠ q ∧ w.heap.size < p ∧ w.heap.size < q ∧ Hid (wc.heap[p]? = some (.cells #[.int .i64 S, .int .i64 E, .int .i64 Mo, .bool back, .bool last, .int .u8 stub, .int .u8 roll, .int .u8 wk, .slice a hs.length c] 26 (0, 0))) ∧ Hid (wc.heap[q]? = some (.cells #[.int .i64 S, .int .i64 E, .int .i64 Mo, .bool back, .bool last, .int .u8 stub, .int .u8 roll, .int .u8 wk, .slice a hs.length c] 26 (0, 0))) ∧ Hid (wc.heap[w.heap.size]? = some (.cells #[.int .i64 S, .int .i64 E, .int .i64 Mo, .bool back, .bool last, .int .u8 stub, .int .u8 roll, .int .u8 wk, .slice a hs.length c] 26 (0, 0))) ∧ Below w.heap.size w wc)
  case first =>
    go_region
    all_goals
      clear x0 x1 x2 x3 x4 x5 x6 x7 x8 xa0 xa1 xa2 xa3 xa4 xa5 xa6 xa7 xa8 xb0 xb1 xb2 xb3 xb4 xb5 xb6 xb7 xb8
      have HT := Lib.hid (blk_two w2 (.cells #[.int .i64 S, .int .i64 E, .int .i64 Mo, .bool back, .bool last, .int .u8 stub, .int .u8 roll, .int .u8 wk, .slice a hs.length c] 26) (.cells #[.int .i64 S, .int .i64 E, .int .i64 Mo, .bool back, .bool last, .int .u8 stub, .int .u8 roll, .int .u8 wk, .slice a hs.length c] 26))
      have HT0 := Lib.hid (blk_past _ (.cells #[.int .i64 S, .int .i64 E, .int .i64 Mo, .bool back, .bool last, .int .u8 stub, .int .u8 roll, .int .u8 wk, .slice a hs.length c] 26) (blk_past w2 (.cells #[.int .i64 S, .int .i64 E, .int .i64 Mo, .bool back, .bool last, .int .u8 stub, .int .u8 roll, .int .u8 wk, .slice a hs.length c] 26) HX2.out))
      have HTB : Hid (Below w.heap.size w ((w2.alloc (.cells #[.int .i64 S, .int .i64 E, .int .i64 Mo, .bool back, .bool last, .int .u8 stub, .int .u8 roll, .int .u8 wk, .slice a hs.length c] 26)).alloc (.cells #[.int .i64 S, .int .i64 E, .int .i64 Mo, .bool back, .bool last, .int .u8 stub, .int .u8 roll, .int .u8 wk, .slice a hs.length c] 26)).drew) := ((c2.alloc (by omega) _).alloc (by rw [World.size_alloc]; omega) _).drew
      change Exit.then _ _ _ _ ((w2.alloc (.cells #[.int .i64 S, .int .i64 E, .int .i64 Mo, .bool back, .bool last, .int .u8 stub, .int .u8 roll, .int .u8 wk, .slice a hs.length c] 26)).alloc (.cells #[.int .i64 S, .int .i64 E, .int .i64 Mo, .bool back, .bool last, .int .u8 stub, .int .u8 roll, .int .u8 wk, .slice a hs.length c] 26)).drew
      have HT1 : Hid (((w2.alloc (.cells #[.int .i64 S, .int .i64 E, .int .i64 Mo, .bool back, .bool last, .int .u8 stub, .int .u8 roll, .int .u8 wk, .slice a hs.length c] 26)).alloc (.cells #[.int .i64 S, .int .i64 E, .int .i64 Mo, .bool back, .bool last, .int .u8 stub, .int .u8 roll, .int .u8 wk, .slice a hs.length c] 26)).drew.heap[w2.heap.size]? = some (.cells #[.int .i64 S, .int .i64 E, .int .i64 Mo, .bool back, .bool last, .int .u8 stub, .int .u8 roll, .int .u8 wk, .slice a hs.length c] 26 (0, 0))) := HT.out.1
      have HT2 : Hid (((w2.alloc (.cells #[.int .i64 S, .int .i64 E, .int .i64 Mo, .bool back, .bool last, .int .u8 stub, .int .u8 roll, .int .u8 wk, .slice a hs.length c] 26)).alloc (.cells #[.int .i64 S, .int .i64 E, .int .i64 Mo, .bool back, .bool last, .int .u8 stub, .int .u8 roll, .int .u8 wk, .slice a hs.length c] 26)).drew.heap[w2.heap.size + 1]? = some (.cells #[.int .i64 S, .int .i64 E, .int .i64 Mo, .bool back, .bool last, .int .u8 stub, .int .u8 roll, .int .u8 wk, .slice a hs.length c] 26 (0, 0))) := HT.out.2
      have HT3 : Hid (((w2.alloc (.cells #[.int .i64 S, .int .i64 E, .int .i64 Mo, .bool back, .bool last, .int .u8 stub, .int .u8 roll, .int .u8 wk, .slice a hs.length c] 26)).alloc (.cells #[.int .i64 S, .int .i64 E, .int .i64 Mo, .bool back, .bool last, .int .u8 stub, .int .u8 roll, .int .u8 wk, .slice a hs.length c] 26)).drew.heap[w.heap.size]? = some (.cells #[.int .i64 S, .int .i64 E, .int .i64 Mo, .bool back, .bool last, .int .u8 stub, .int .u8 roll, .int .u8 wk, .slice a hs.length c] 26 (0, 0))) := HT0.out
      clear HT HT0
      generalize ((w2.alloc (.cells #[.int .i64 S, .int .i64 E, .int .i64 Mo, .bool back, .bool last, .int .u8 stub, .int .u8 roll, .int .u8 wk, .slice a hs.length c] 26)).alloc (.cells #[.int .i64 S, .int .i64 E, .int .i64 Mo, .bool back, .bool last, .int .u8 stub, .int .u8 roll, .int .u8 wk, .slice a hs.length c] 26)).drew = wn at HT1 HT2 HT3 HTB ⊢
      go_wp2
      go_meet
      case rel =>
        first
          | exact ⟨_, _, rfl, rfl, by omega, by omega, by omega, HT1, HT2, HT3, HTB.out⟩
          | exact ⟨_, _, rfl, rfl, by omega, by omega, by omega, HT2, HT1, HT3, HTB.out⟩
  case rest =>
    clear x0 x1 x2 x3 x4 x5 x6 x7 x8 xa0 xa1 xa2 xa3 xa4 xa5 xa6 xa7 xa8 xb0 xb1 xb2 xb3 xb4 xb5 xb6 xb7 xb8 HX2 hlt2
    obtain ⟨p, q, rfl, rfl, hpq, hwp, hwq, HP, HQ, HX, hbc⟩ := hcut
    have hqp : q ≠ p := fun e => hpq e.symm
    have y5 := cell_of HP.out 5 _ rfl
    have z5 := cell_of HQ.out 5 _ rfl
    have fy5 := frozen_of HP.out 5
    have fz5 := frozen_of HQ.out 5
    go_upto_region 6 with fail
    have HP1 : Hid (((wc.setCell ⟨p, 5, none⟩ (.int .u8 0)).setCell ⟨q, 5, none⟩ (.int .u8 1)).heap[p]? = some (.cells #[.int .i64 S, .int .i64 E, .int .i64 Mo, .bool back, .bool last, .int .u8 0, .int .u8 roll, .int .u8 wk, .slice a hs.length c] 26 (0, 0))) := far_set5 (set5 HP.out _) hpq _
    have HQ1 : Hid (((wc.setCell ⟨p, 5, none⟩ (.int .u8 0)).setCell ⟨q, 5, none⟩ (.int .u8 1)).heap[q]? = some (.cells #[.int .i64 S, .int .i64 E, .int .i64 Mo, .bool back, .bool last, .int .u8 1, .int .u8 roll, .int .u8 wk, .slice a hs.length c] 26 (0, 0))) := set5 (far_set5 HQ.out hqp _) _
    have HX1 : Hid (((wc.setCell ⟨p, 5, none⟩ (.int .u8 0)).setCell ⟨q, 5, none⟩ (.int .u8 1)).heap[w.heap.size]? = some (.cells #[.int .i64 S, .int .i64 E, .int .i64 Mo, .bool back, .bool last, .int .u8 stub, .int .u8 roll, .int .u8 wk, .slice a hs.length c] 26 (0, 0))) := far_set5 (far_set5 HX.out (by omega) _) (by omega) _
    have hb1 : Below w.heap.size w ((wc.setCell ⟨p, 5, none⟩ (.int .u8 0)).setCell ⟨q, 5, none⟩ (.int .u8 1)) := (hbc.setCell (p := ⟨p, 5, none⟩) (by show w.heap.size ≤ p; omega) _).setCell (p := ⟨q, 5, none⟩) (by show w.heap.size ≤ q; omega) _
    clear y5 z5 fy5 fz5 HP HQ HX hbc
    generalize (wc.setCell _ _).setCell _ _ = wd at HP1 HQ1 HX1 hb1 ⊢
    have hp1 := HP1.out
    have x0 := cell_of hp1 0 _ rfl
    have x1 := cell_of hp1 1 _ rfl
    have x2 := cell_of hp1 2 _ rfl
    have x3 := cell_of hp1 3 _ rfl
    have x4 := cell_of hp1 4 _ rfl
    have x5 := cell_of hp1 5 _ rfl
    have x6 := cell_of hp1 6 _ rfl
    have x7 := cell_of hp1 7 _ rfl
    have x8 := cell_of hp1 8 _ rfl
    clear hp1
    go_wp2_with fail
    refine (HDA.out wd (HSA.out.below hb1)).mono ?_
    rintro e w6 ⟨aa, ac, rfl, ho6, hb6⟩
    have c6 := bt hb1 hb6 (Nat.le_refl _)
    have HOA := Lib.hid (ho6.sl ic_len).1
    have hq1 := blk_keep HQ1.out hb6
    have HX6 := Lib.hid (blk_keep HX1.out hb6)
    clear x0 x1 x2 x3 x4 x5 x6 x7 x8 HP1 HQ1 HX1 hb1 hb6 ho6 hwp hwq hpq hqp
    have x0 := cell_of hq1 0 _ rfl
    have x1 := cell_of hq1 1 _ rfl
    have x2 := cell_of hq1 2 _ rfl
    have x3 := cell_of hq1 3 _ rfl
    have x4 := cell_of hq1 4 _ rfl
    have x5 := cell_of hq1 5 _ rfl
    have x6 := cell_of hq1 6 _ rfl
    have x7 := cell_of hq1 7 _ rfl
    have x8 := cell_of hq1 8 _ rfl
    clear hq1
    go_wp2_with fail
    refine (HDB.out w6 (HSB.out.below c6)).mono ?_
    rintro e w7 ⟨ba, bc, rfl, ho7, hb7⟩
    have c7 := bt c6 hb7 (Nat.le_refl _)
    have HOB := Lib.hid (ho7.sl ic_len).1
    have HOA7 := Lib.hid (HOA.out.below hb7)
    have HX7 := Lib.hid (blk_keep HX6.out hb7)
    clear x0 x1 x2 x3 x4 x5 x6 x7 x8 HX6 c6 hb7 ho7 HOA
    have hga3 : (ga != 0) = true := by rw [bne, hga2]; rfl
    by_cases hgb : gb = 0
    · subst hgb
      go_wp2
      go_ret
      exact ⟨rfl, c7⟩
    · have hgb2 : (gb == 0) = false := by rw [beq_eq_false_iff_ne]; exact hgb
      go_wp2
      go_ret
      exact ⟨rfl, c7⟩

end Go.Proofs.Ytainmmdlbajpnaa.Sc
