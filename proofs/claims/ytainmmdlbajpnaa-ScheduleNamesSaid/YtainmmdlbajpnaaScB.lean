/-
  The walks of calendar.inside, calendar.Check, schedule.Check.
-/
import Derived.Test.YtainmmdlbajpnaaKb
import Derived.Test.YtainmmdlbajpnaaScA
namespace Go.Proofs.Ytainmmdlbajpnaa.Sc
open Go.RowKit Go.Proofs.Ytainmmdlbajpnaa Go.Proofs.Ytainmmdlbajpnaa.Ls Go.Proofs.Ytainmmdlbajpnaa.Kb

/-- is the i-th holiday a day, and behind the one ahead of it? -/
def dayOK (hs : List Int) (i : Nat) : Bool := decide (0 ≤ hs.getD i 0) && (decide (hs.getD i 0 ≤ 99999) && (decide (i = 0) || decide (hs.getD (i - 1) 0 < hs.getD i 0)))
def calOK (wk : Int) (hs : List Int) : Bool := decide (wk < 127) && (decide (hs.length ≤ 1000) && (List.range hs.length).all (dayOK hs))
def eV (b : Bool) : Int := if b then 0 else 8

theorem cal_no {wk : Int} {hs : List Int} (h : 127 ≤ wk ∨ 1000 < hs.length) : calOK wk hs = false := by
  unfold calOK
  rcases h with h | h
  · rw [decide_eq_false (by omega)]; rfl
  · rw [decide_eq_false (p := hs.length ≤ 1000) (by omega)]; simp
theorem cal_bad {wk : Int} {hs : List Int} (i : Nat) (hi : i < hs.length) (h : dayOK hs i = false) : calOK wk hs = false := by
  have : (List.range hs.length).all (dayOK hs) = false := by
    rw [List.all_eq_false]
    exact ⟨i, List.mem_range.2 hi, by rw [h]; simp⟩
  unfold calOK
  rw [this]
  simp
theorem cal_yes {wk : Int} {hs : List Int} (h1 : wk < 127) (h2 : hs.length ≤ 1000) (h : ∀ i, i < hs.length → dayOK hs i = true) : calOK wk hs = true := by
  have : (List.range hs.length).all (dayOK hs) = true := by
    rw [List.all_eq_true]
    exact fun i hi => h i (List.mem_range.1 hi)
  unfold calOK
  rw [this, decide_eq_true h1, decide_eq_true h2]
  rfl

theorem inside_any (n : Int) (w : World) :
    Calls Try.prog 41 #[.int .i64 n] w fun e w' => e = .returned (.bool (decide (0 ≤ n) && decide (n ≤ 99999))) ∧ w' = w := by
  go_enter Try.func41, Try.ntmps41
  go_wp2
  all_goals
    go_ret
    refine ⟨ret_bool ?_, rfl⟩
  · have h : 0 ≤ n := by assumption
    simp [h]
  · have h : n < 0 := by assumption
    rw [decide_eq_false (p := 0 ≤ n) (by omega)]
    rfl

set_option maxRecDepth 100000 in
set_option maxHeartbeats 1000000 in
theorem cal_any (wk : Int) (a : Option Addr) (c : Nat) (hs : List Int) (w : World) (hL : hs.length ≤ maxLen) (hA : AtL w 1 ic a hs) :
    Calls Try.prog 38 #[.agg #[.int .u8 wk, .slice a hs.length c]] w fun e w' => e = .returned (.int .i64 (eV (calOK wk hs))) ∧ Below w.heap.size w w' := by
  have HA := Lib.hid hA
  clear hA
  unfold maxLen at hL
  go_enter Try.func38, Try.ntmps38
  have hx := blk_new w (.cells #[.int .u8 wk, .slice a hs.length c] 24)
  have hbo : Below w.heap.size w (w.alloc (.cells #[.int .u8 wk, .slice a hs.length c] 24)) := (Below.refl _ _).alloc (Nat.le_refl _) _
  by_cases hB : 127 ≤ wk ∨ 1000 < (hs.length : Int)
  · have HN := Lib.hid (cal_no (wk := wk) (hs := hs) (by omega))
    go_wp2
    all_goals first
      | exact absurd hB (by omega)
      | (go_ret
         refine ⟨ret_int ?_, hbo⟩
         rw [HN.out]
         rfl)
  · have h1 : wk < 127 := by omega
    have h2 : (hs.length : Int) ≤ 1000 := by omega
    clear hB
    go_wp2_with fail
    clear hx
    go_loopw [3, 4, 17] (fun _ _ c' wr => ∃ k : Nat, k ≤ hs.length ∧ c' = .int .i64 k ∧ Hid (∀ i, i < k → dayOK hs i = true) ∧ Below w.heap.size w wr ∧ Hid (wr.heap[w.heap.size]? = some (.cells #[.int .u8 wk, .slice a hs.length c] 24 (0, 0))))
      (fun _ _ c' _ => hs.length - (intOf c').toNat)
    case atStart => exact ⟨0, by omega, rfl, fun i hi => by omega, hbo, blk_new _ _⟩
    case round =>
      obtain ⟨k, hk, rfl, HK, hbr, HX⟩ := hrel
      have x1 := cell_of HX.out 1 _ rfl
      rcases Nat.lt_or_ge k hs.length with g | g
      · obtain ⟨b, off, rfl, q⟩ := at_int (HA.out.below hbr) k g
        have hg : (k : Int) < hs.length := by omega
        have hp : 0 < k → wr.cell? ⟨b, off + (k - 1), none⟩ = some (.int .i64 (hs.getD (k - 1) 0)) := fun h => at_int' (HA.out.below hbr) (k - 1) (by omega)
        have HD := Lib.hid (show dayOK hs k = (decide (0 ≤ hs.getD k 0) && (decide (hs.getD k 0 ≤ 99999) && (decide (k = 0) || decide (hs.getD (k - 1) 0 < hs.getD k 0)))) from rfl)
        generalize hs.getD k 0 = X at q HD
        generalize hs.getD (k - 1) 0 = Y at hp HD
        rcases hb (decide (0 ≤ X) && decide (X ≤ 99999)) with hI | hI
        · have HI := Lib.hid hI
          have HJ := Lib.hid (show 0 ≤ X ∧ X ≤ 99999 by rw [Bool.and_eq_true, decide_eq_true_eq, decide_eq_true_eq] at hI; exact hI)
          clear hI
          rcases Nat.eq_zero_or_pos k with k0 | k0
          · subst k0
            clear hp
            rw [Nat.add_zero] at q
            go_wp2_with (go_at_call 41; refine (inside_any _ _).mono ?_; rintro e w1 ⟨rfl, rfl⟩; rw [HI.out])
            go_roundw
            case rel =>
              refine ⟨1, by omega, by go_num, fun i hi => ?_, hbr, HX⟩
              obtain rfl : i = 0 := by omega
              rw [HD.out]
              simp [HJ.out.1, HJ.out.2]
            case measure => simp [intOf]; omega
          · have hk0 : (0 : Int) < k := by omega
            have hp := hp k0
            have hk1 : ((k - 1 : Nat) : Int) = (k : Int) - 1 := by omega
            go_wp2_with (go_at_call 41; refine (inside_any _ _).mono ?_; rintro e w1 ⟨rfl, rfl⟩; rw [HI.out])
            · have hXY : X ≤ Y := by assumption
              go_ret
              refine ⟨ret_int ?_, hbr⟩
              rw [cal_bad k g (by rw [HD.out, decide_eq_false (p := k = 0) (by omega), decide_eq_false (p := Y < X) (by omega)]; simp)]
              rfl
            · have hXY : Y < X := by assumption
              go_roundw
              case rel =>
                refine ⟨k + 1, by omega, by go_num, fun i hi => ?_, hbr, HX⟩
                rcases Nat.lt_or_ge i k with hik | hik
                · exact HK.out i hik
                · obtain rfl : i = k := by omega
                  rw [HD.out]
                  simp [HJ.out.1, HJ.out.2, hXY]
              case measure => simp [intOf]; omega
        · have HI := Lib.hid hI
          have HJ := Lib.hid (show dayOK hs k = false by rw [HD.out, ← Bool.and_assoc, hI, Bool.false_and])
          clear hI hp
          go_wp2_with (go_at_call 41; refine (inside_any _ _).mono ?_; rintro e w1 ⟨rfl, rfl⟩; rw [HI.out])
          go_ret
          refine ⟨ret_int ?_, hbr⟩
          rw [cal_bad k g HJ.out]
          rfl
      · obtain rfl : k = hs.length := by omega
        go_wp2
        go_ret
        refine ⟨ret_int ?_, hbr⟩
        rw [cal_yes h1 (by omega) HK.out]
        rfl

/-- a description -/
structure Sch where
  S : Int
  E : Int
  Mo : Int
  back : Bool
  last : Bool
  stub : Int
  roll : Int
  wk : Int
  a : Option Addr
  c : Nat
  hs : List Int
def Sch.cells (s : Sch) : Array Value := #[.int .i64 s.S, .int .i64 s.E, .int .i64 s.Mo, .bool s.back, .bool s.last, .int .u8 s.stub, .int .u8 s.roll, .int .u8 s.wk, .slice s.a s.hs.length s.c]
structure SchAt (w : World) (s : Sch) : Prop where
  len : s.hs.length ≤ maxLen
  at' : AtL w 1 ic s.a s.hs
  sm : -9223372036854775808 ≤ s.Mo ∧ s.Mo ≤ 9223372036854775807
theorem SchAt.below {w w' : World} {s : Sch} (h : SchAt w s) (hb : Below w.heap.size w w') : SchAt w' s := ⟨h.len, h.at'.below hb, h.sm⟩

def schOK (s : Sch) : Bool := calOK s.wk s.hs && decide (0 ≤ s.S ∧ s.S < s.E ∧ s.E ≤ 99999 ∧ 1 ≤ s.Mo ∧ s.Mo ≤ 1200 ∧ s.stub ≤ 1 ∧ s.roll ≤ 4)

set_option maxRecDepth 100000 in
set_option maxHeartbeats 1000000 in
theorem check_any (s : Sch) (w : World) (hS : SchAt w s) :
    Calls Try.prog 21 #[.agg s.cells] w fun e w' => e = .returned (.int .i64 (eV (schOK s))) ∧ Below w.heap.size w w' := by
  obtain ⟨S, E, Mo, back, last, stub, roll, wk, a, c, hs⟩ := s
  obtain ⟨hL, hA, _⟩ := hS
  have HA := Lib.hid hA
  clear hA
  simp only [Sch.cells] at *
  have HE := Lib.hid (show schOK ⟨S, E, Mo, back, last, stub, roll, wk, a, c, hs⟩ = (calOK wk hs && decide (0 ≤ S ∧ S < E ∧ E ≤ 99999 ∧ 1 ≤ Mo ∧ Mo ≤ 1200 ∧ stub ≤ 1 ∧ roll ≤ 4)) from rfl)
  generalize schOK _ = ok at HE ⊢
  go_enter Try.func21, Try.ntmps21
  have hbo : Below w.heap.size w (w.alloc (.cells #[.int .i64 S, .int .i64 E, .int .i64 Mo, .bool back, .bool last, .int .u8 stub, .int .u8 roll, .int .u8 wk, .slice a hs.length c] 26)) := (Below.refl _ _).alloc (Nat.le_refl _) _
  have hx := blk_new w (.cells #[.int .i64 S, .int .i64 E, .int .i64 Mo, .bool back, .bool last, .int .u8 stub, .int .u8 roll, .int .u8 wk, .slice a hs.length c] 26)
  go_wp2_with fail
  generalize w.alloc _ = wo at hx hbo ⊢
  refine (cal_any wk a c hs wo hL (HA.out.below hbo)).mono ?_
  rintro e w1 ⟨rfl, hb1⟩
  have hx := blk_keep hx hb1
  have c1 := bt hbo hb1 (Nat.le_refl _)
  have x0 := cell_of hx 0 _ rfl
  have x1 := cell_of hx 1 _ rfl
  have x2 := cell_of hx 2 _ rfl
  have x5 := cell_of hx 5 _ rfl
  have x6 := cell_of hx 6 _ rfl
  rcases hb (calOK wk hs) with hc | hc
  · rw [hc] at HE ⊢
    have e0 : eV true = 0 := rfl
    rw [e0]
    clear e0 hc
    go_wp2
    all_goals
      go_ret
      refine ⟨ret_int ?_, c1⟩
      rw [HE.out]
      first
        | (rw [decide_eq_true (by omega)]; rfl)
        | (rw [decide_eq_false (by omega)]; rfl)
  · rw [hc] at HE ⊢
    have e0 : eV false = 8 := rfl
    rw [e0]
    clear e0 hc
    go_wp2
    go_ret
    refine ⟨ret_int ?_, c1⟩
    rw [HE.out]
    rfl

end Go.Proofs.Ytainmmdlbajpnaa.Sc
