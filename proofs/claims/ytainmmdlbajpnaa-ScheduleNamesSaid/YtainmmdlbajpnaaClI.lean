/-
  Periods for any description; Same; the walk of the law ScheduleTells.
-/
import Derived.Test.YtainmmdlbajpnaaClH
import Derived.Test.YtainmmdlbajpnaaScL
import Derived.Test.YtainmmdlbajpnaaScO
import Derived.Test.YtainmmdlbajpnaaScU
namespace Go.Proofs.Ytainmmdlbajpnaa.Sc
open Go.RowKit Go.Proofs.Ytainmmdlbajpnaa Go.Proofs.Ytainmmdlbajpnaa.Ls Go.Proofs.Ytainmmdlbajpnaa.Kb
open Go.Proofs.Ytainmmdlbajpnaa.Dt hiding ret_bool ret_int

theorem rollr_err {wk : Int} {hs : List Int} {day rule r e : Int} (h : RollR wk hs day rule r e) : e = 0 ∨ e = 40 := by
  obtain ⟨nr, ne, pr, pe, s1, s2, hn, hp, hs1, hs2, he1, he2, hc⟩ := h
  rcases hc with ⟨_, _, rfl⟩ | ⟨_, _, rfl⟩ | ⟨_, _, rfl⟩ | ⟨_, ⟨_, _, _, rfl⟩ | ⟨_, _, rfl⟩⟩ | ⟨_, ⟨_, _, _, rfl⟩ | ⟨_, _, rfl⟩⟩
  · exact .inl rfl
  · exact he1
  · exact he2
  · exact .inl rfl
  · exact he2
  · exact .inl rfl
  · exact he1

/-- what Periods returns -/
def PRes (s : Sch) (L : List Int) (ga : Int) (P : List (Int × Int × Int × Int)) (g : Int) : Prop :=
  (ga ≠ 0 ∧ P = [] ∧ g = ga) ∨ (ga = 0 ∧ ∃ (m : Nat) (D R E : Nat → Int), PerK s L m D R E P g ∧ calOK s.wk s.hs = true ∧ D 0 = s.S ∧ D m = s.E ∧ (∀ i, i < m → D i < D (i + 1)) ∧ ∀ i, inD (D i) ∧ RollR s.wk s.hs (D i) s.roll (R i) (E i))

theorem pres_exists (s : Sch) (h0 : 0 ≤ s.roll) (L : List Int) (ga : Int) (hR : DRes s L ga) : ∃ P g, PRes s L ga P g := by
  rcases hR with ⟨_, rfl, rfl⟩ | ⟨y, m, d, N, hY, ⟨hk, rfl, rfl⟩ | ⟨_, rfl, rfl⟩⟩
  · exact ⟨[], 8, .inl ⟨by omega, rfl, rfl⟩⟩
  · obtain ⟨g0, g1, g2, g3, g4, g5, g6, g7⟩ := sch_facts hY.ok
    have hn := kn_le s y m d N
    have hL := dl_len s y m d (kn s y m d N)
    have hz := dl_zero s y m d (kn s y m d N)
    have hE := dl_last s y m d (kn s y m d N)
    have hT := fun k hk => dl_lt hY hn k hk
    generalize dL s y m d (kn s y m d N) = L at hL hz hE hT ⊢
    generalize kn s y m d N = n at hk hL hE hT hn ⊢
    have hup : ∀ k, k ≤ n + 1 → s.S ≤ L.getD k 0 := fun k => by
      induction k with
      | zero =>
        intro _
        omega
      | succ k ih =>
        intro h
        have a := ih (by omega)
        have b := hT k (by omega)
        omega
    have hdn : ∀ k, k ≤ n + 1 → L.getD (n + 1 - k) 0 ≤ s.E := fun k => by
      induction k with
      | zero =>
        intro _
        rw [Nat.sub_zero]
        omega
      | succ k ih =>
        intro h
        have a := ih (by omega)
        have b := hT (n - k) (by omega)
        rw [show n - k + 1 = n + 1 - k by omega] at b
        rw [show n + 1 - (k + 1) = n - k by omega]
        omega
    have hin : ∀ i, inD (L.getD i 0) := fun i => by
      unfold inD
      rcases Nat.lt_or_ge i (n + 2) with h | h
      · have a := hup i (by omega)
        have b := hdn (n + 1 - i) (by omega)
        rw [show n + 1 - (n + 1 - i) = i by omega] at b
        omega
      · rw [List.getD_eq_getElem?_getD, List.getElem?_eq_none (by omega)]
        simp
    have hr : ∀ i : Nat, ∃ p : Int × Int, RollR s.wk s.hs (L.getD i 0) s.roll p.1 p.2 := fun i => by
      obtain ⟨r, e, h⟩ := roll_exists s.wk s.hs (L.getD i 0) s.roll (hin i) h0 g7
      exact ⟨(r, e), h⟩
    obtain ⟨f, hf⟩ := Classical.axiomOfChoice hr
    have herr : ∀ i, (f i).2 = 0 ∨ (f i).2 = 40 := fun i => rollr_err (hf i)
    by_cases hall : ∀ i, i ≤ n + 1 → (f i).2 = 0
    · exact ⟨_, 0, .inr ⟨rfl, n + 1, fun i => L.getD i 0, fun i => (f i).1, fun i => (f i).2, ⟨hL, fun i _ => rfl, by omega, by omega, fun i _ => herr i, fun _ => ⟨rfl, rfl⟩, fun i hi h => absurd (h.symm.trans (hall i hi)) (by decide)⟩, g0, hz, hE, fun i hi => hT i (by omega), fun i => ⟨hin i, hf i⟩⟩⟩
    · exact ⟨[], 40, .inr ⟨rfl, n + 1, fun i => L.getD i 0, fun i => (f i).1, fun i => (f i).2, ⟨hL, fun i _ => rfl, by omega, by omega, fun i _ => herr i, fun h => absurd h hall, fun i hi h => ⟨rfl, rfl⟩⟩, g0, hz, hE, fun i hi => hT i (by omega), fun i => ⟨hin i, hf i⟩⟩⟩
  · exact ⟨[], 4, .inl ⟨by omega, rfl, rfl⟩⟩

set_option maxRecDepth 100000 in
set_option maxHeartbeats 1000000 in
theorem periods_any (s : Sch) (L : List Int) (ga : Int) (P : List (Int × Int × Int × Int)) (g : Int) {w : World} (hS : SchAt w s) (hw : 0 ≤ s.wk) (hR : DRes s L ga) (hP : PRes s L ga P g) :
    Calls Try.prog 18 #[.agg s.cells] w fun e w' => ∃ a c, e = .returned (.tuple #[.slice a P.length c, .int .i64 g]) ∧ OwnL w' w.heap.size 50 4 pqc (.slice a P.length c) P ∧ Below w.heap.size w w' := by
  rcases hP with ⟨hga, rfl, rfl⟩ | ⟨rfl, m, D, R, E, hK, hc, _, _, _, hr⟩
  · have HD := Lib.hid (fun (w' : World) (h : SchAt w' s) => dates_any s L g w' h hR)
    have HS := Lib.hid hS
    clear hR hS
    have hga2 : (g == 0) = false := by rw [beq_eq_false_iff_ne]; exact hga
    obtain ⟨S, En, Mo, back, last, stub, roll, wk, a, c, hs⟩ := s
    simp only [Sch.cells] at *
    have hx := blk_new w (.cells #[.int .i64 S, .int .i64 En, .int .i64 Mo, .bool back, .bool last, .int .u8 stub, .int .u8 roll, .int .u8 wk, .slice a hs.length c] 26)
    have hbo : Below w.heap.size w (w.alloc (.cells #[.int .i64 S, .int .i64 En, .int .i64 Mo, .bool back, .bool last, .int .u8 stub, .int .u8 roll, .int .u8 wk, .slice a hs.length c] 26)) := (Below.refl _ _).alloc (Nat.le_refl _) _
    go_enter Try.func18, Try.ntmps18
    go_wp2_with fail
    generalize w.alloc _ = wo at hx hbo ⊢
    refine (HD.out wo (HS.out.below hbo)).mono ?_
    rintro e w1 ⟨la, lc, rfl, ho1, hb1⟩
    go_wp2
    go_ret2
    exact ⟨none, 0, rfl, OwnL.nil _ _ _ _ _, bt hbo hb1 (Nat.le_refl _)⟩
  · exact periods_walk s L m D R E P g hS hK (fun w' h => dates_any s L 0 w' h hR) (fun i _ w' hA => roll_any s.wk s.a s.c s.hs (D i) s.roll (R i) (E i) w' hS.len hc hw (hr i).1 hA (hr i).2)

set_option maxRecDepth 100000 in
set_option maxHeartbeats 1000000 in
theorem rperiods_any (s : Sch) (L : List Int) (ga : Int) (P : List (Int × Int × Int × Int)) (g : Int) {w : World} (hS : SchAt w s) (hw : 0 ≤ s.wk) (hR : DRes s L ga) (hP : PRes s L ga P g) :
    Calls Try.prog 19 #[.agg s.cells] w fun e w' => ∃ a c, e = .returned (.tuple #[.slice a P.length c, .int .i64 g]) ∧ OwnL w' w.heap.size 50 4 pqc (.slice a P.length c) P ∧ Below w.heap.size w w' := by
  rcases hP with ⟨hga, rfl, rfl⟩ | ⟨rfl, m, D, R, E, hK, hc, _, _, _, hr⟩
  · have HD := Lib.hid (fun (w' : World) (h : SchAt w' s) => rdates_any s L g w' h hR)
    have HS := Lib.hid hS
    clear hR hS
    have hga2 : (g == 0) = false := by rw [beq_eq_false_iff_ne]; exact hga
    obtain ⟨S, En, Mo, back, last, stub, roll, wk, a, c, hs⟩ := s
    simp only [Sch.cells] at *
    have hx := blk_new w (.cells #[.int .i64 S, .int .i64 En, .int .i64 Mo, .bool back, .bool last, .int .u8 stub, .int .u8 roll, .int .u8 wk, .slice a hs.length c] 26)
    have hbo : Below w.heap.size w (w.alloc (.cells #[.int .i64 S, .int .i64 En, .int .i64 Mo, .bool back, .bool last, .int .u8 stub, .int .u8 roll, .int .u8 wk, .slice a hs.length c] 26)) := (Below.refl _ _).alloc (Nat.le_refl _) _
    go_enter Try.func19, Try.ntmps19
    go_wp2_with fail
    generalize w.alloc _ = wo at hx hbo ⊢
    refine (HD.out wo (HS.out.below hbo)).mono ?_
    rintro e w1 ⟨la, lc, rfl, ho1, hb1⟩
    go_wp2
    go_ret2
    exact ⟨none, 0, rfl, OwnL.nil _ _ _ _ _, bt hbo hb1 (Nat.le_refl _)⟩
  · exact rperiods_walk s L m D R E P g hS hK (fun w' h => rdates_any s L 0 w' h hR) (fun i _ w' hA => rroll_any s.wk s.a s.c s.hs (D i) s.roll (R i) (E i) w' hS.len hc hw (hr i).1 hA (hr i).2)

/-- the cells of the k-th period -/
theorem at_per {w : World} {a : Option Addr} {P : List (Int × Int × Int × Int)} (h : AtL w 4 pqc a P) (k : Nat) (hk : k < P.length) : ∃ b off, a = some ⟨b, off, none⟩ ∧ w.cell? ⟨b, off + k * 4, none⟩ = some (.int .i64 P[k].1) ∧ w.cell? ⟨b, off + k * 4 + 1, none⟩ = some (.int .i64 P[k].2.1) ∧ w.cell? ⟨b, off + k * 4 + 2, none⟩ = some (.int .i64 P[k].2.2.1) ∧ w.cell? ⟨b, off + k * 4 + 3, none⟩ = some (.int .i64 P[k].2.2.2) := by
  obtain ⟨b, off, ha, hc⟩ := h k P[k] (by rw [List.getElem?_eq_getElem hk])
  exact ⟨b, off, ha, hc 0 _ rfl, hc 1 _ rfl, hc 2 _ rfl, hc 3 _ rfl⟩

set_option maxRecDepth 100000 in
set_option maxHeartbeats 1000000 in
theorem sameP_any (a b : Option Addr) (c d n : Nat) (P : List (Int × Int × Int × Int)) (w : World) (hn : P.length = n) (hx : n ≤ maxLen) (hA : AtL w 4 pqc a P) (hB : AtL w 4 pqc b P) :
    Calls Try.prog 20 #[.slice a n c, .slice b n d] w fun e w' => e = .returned (.bool true) ∧ Below w.heap.size w w' := by
  unfold maxLen at hx
  have HA := Lib.hid hA
  have HB := Lib.hid hB
  clear hA hB
  go_enter Try.func20, Try.ntmps20
  go_wp2_with fail
  go_loopw [5] (fun i wr => ∃ k : Nat, k ≤ n ∧ i = .int .i64 k ∧ Below w.heap.size w wr) (fun i _ => n - (intOf i).toNat)
  case atStart => exact ⟨0, by omega, rfl, Below.refl _ _⟩
  case round =>
    obtain ⟨k, hk, rfl, hbw⟩ := hrel
    by_cases hlt : k < n
    · have hki : (k : Int) < n := by omega
      have hlt' : k < P.length := by omega
      obtain ⟨ba, oa, rfl, p0, p1, p2, p3⟩ := at_per (HA.out.below hbw) k hlt'
      obtain ⟨bb, ob, rfl, q0, q1, q2, q3⟩ := at_per (HB.out.below hbw) k hlt'
      generalize P[k] = x at *
      go_wp2_with fail
      go_quiet (fail)
      go_wp2
      go_roundw
      case rel => exact ⟨k + 1, by omega, by go_num, below_drewN hbw _⟩
      case measure => simp [intOf]; omega
    · obtain rfl : k = n := by omega
      go_wp2
      go_ret
      exact ⟨rfl, hbw⟩

end Go.Proofs.Ytainmmdlbajpnaa.Sc
