/-
  The walk of Periods.
-/
import Derived.Test.YtainmmdlbajpnaaScG
import Derived.Test.YtainmmdlbajpnaaClD
import Derived.BigQuiet
import Derived.Deep.RegionHeld3
namespace Go.Proofs.Ytainmmdlbajpnaa.Sc
open Go.RowKit Go.Proofs.Ytainmmdlbajpnaa Go.Proofs.Ytainmmdlbajpnaa.Ls Go.Proofs.Ytainmmdlbajpnaa.Kb
open Go.Proofs.Ytainmmdlbajpnaa.Dt hiding ret_bool ret_int

/-- a period's cells -/
def pqc (x : Int × Int × Int × Int) : List Value := [.int .i64 x.1, .int .i64 x.2.1, .int .i64 x.2.2.1, .int .i64 x.2.2.2]
theorem pqc_len (x : Int × Int × Int × Int) : (pqc x).length = 4 := rfl
theorem pqc_one (x : Int × Int × Int × Int) : ∀ u ∈ pqc x, u.oneCell' = true := by simp [pqc, Value.oneCell']
theorem infoP : (Try.prog.info? 50).map (fun i => (i.zero, i.size, i.bytes)) = some (some (.agg #[.int .i64 0, .int .i64 0, .int .i64 0, .int .i64 0]), 4, 32) := by kernel_rfl
def perQ (D R : Nat → Int) (i : Nat) : Int × Int × Int × Int := (D i, D (i + 1), R i, R (i + 1))
def perL (D R : Nat → Int) (k : Nat) : List (Int × Int × Int × Int) := (List.range k).map (perQ D R)
theorem perL_len (D R : Nat → Int) (k : Nat) : (perL D R k).length = k := by simp [perL]
theorem perL_succ (D R : Nat → Int) (k : Nat) : perL D R (k + 1) = perL D R k ++ [(D k, D (k + 1), R k, R (k + 1))] := by
  unfold perL
  rw [List.range_succ, List.map_append]
  rfl

/-- what is known of the dates and the rolled days -/
structure PerK (s : Sch) (L : List Int) (m : Nat) (D R E : Nat → Int) (P : List (Int × Int × Int × Int)) (g : Int) : Prop where
  len : L.length = m + 1
  at' : ∀ i, i ≤ m → L.getD i 0 = D i
  lo : 1 ≤ m
  hi : m ≤ 99
  err : ∀ i, i ≤ m → E i = 0 ∨ E i = 40
  ok : (∀ i, i ≤ m → E i = 0) → P = perL D R m ∧ g = 0
  bad : ∀ i, i ≤ m → E i = 40 → P = [] ∧ g = 40

set_option maxRecDepth 100000 in
set_option maxHeartbeats 4000000 in
theorem periods_walk (s : Sch) (L : List Int) (m : Nat) (D R E : Nat → Int) (P : List (Int × Int × Int × Int)) (g : Int) {w : World} (hS : SchAt w s) (hK : PerK s L m D R E P g)
    (hD : ∀ w', SchAt w' s → Calls Try.prog 12 #[.agg s.cells] w' fun e w'' => ∃ a c, e = .returned (.tuple #[.slice a L.length c, .int .i64 0]) ∧ OwnL w'' w'.heap.size 3 1 ic (.slice a L.length c) L ∧ Below w'.heap.size w' w'')
    (hR : ∀ i, i ≤ m → ∀ w', AtL w' 1 ic s.a s.hs → Calls Try.prog 23 #[.agg #[.int .u8 s.wk, .slice s.a s.hs.length s.c], .int .i64 (D i), .int .u8 s.roll] w' fun o w'' => o = .returned (.tuple #[.int .i64 (R i), .int .i64 (E i)]) ∧ Below w'.heap.size w' w'') :
    Calls Try.prog 18 #[.agg s.cells] w fun e w' => ∃ a c, e = .returned (.tuple #[.slice a P.length c, .int .i64 g]) ∧ OwnL w' w.heap.size 50 4 pqc (.slice a P.length c) P ∧ Below w.heap.size w w' := by
  have HD := Lib.hid hD
  have HR := Lib.hid hR
  have HS := Lib.hid hS
  have HH := Lib.hid hS.at'
  have HK := Lib.hid hK
  have hlo := hK.lo
  have hhi := hK.hi
  clear hD hR hS hK
  obtain ⟨S, En, Mo, back, last, stub, roll, wk, a, c, hs⟩ := s
  simp only [Sch.cells] at *
  have hx := blk_new w (.cells #[.int .i64 S, .int .i64 En, .int .i64 Mo, .bool back, .bool last, .int .u8 stub, .int .u8 roll, .int .u8 wk, .slice a hs.length c] 26)
  have hbo : Below w.heap.size w (w.alloc (.cells #[.int .i64 S, .int .i64 En, .int .i64 Mo, .bool back, .bool last, .int .u8 stub, .int .u8 roll, .int .u8 wk, .slice a hs.length c] 26)) := (Below.refl _ _).alloc (Nat.le_refl _) _
  go_enter Try.func18, Try.ntmps18
  go_wp2_with fail
  generalize w.alloc _ = wo at hx hbo ⊢
  have x0 := cell_of hx 0 _ rfl
  have x1 := cell_of hx 1 _ rfl
  have x2 := cell_of hx 2 _ rfl
  have x3 := cell_of hx 3 _ rfl
  have x4 := cell_of hx 4 _ rfl
  have x5 := cell_of hx 5 _ rfl
  have x6 := cell_of hx 6 _ rfl
  have x7 := cell_of hx 7 _ rfl
  have x8 := cell_of hx 8 _ rfl
  go_wp2_with fail
  refine (HD.out wo (HS.out.below hbo)).mono ?_
  rintro e w1 ⟨la, lc, rfl, ho1, hb1⟩
  rw [HK.out.len] at ho1 ⊢
  have c1 := bt hbo hb1 (Nat.le_refl _)
  obtain ⟨la', lc', hv, hA1, hlc, _⟩ := ho1.read ic_len
  rw [HK.out.len] at hv hlc
  have e1 : la' = la ∧ lc' = lc := by
    simp only [Value.slice.injEq] at hv
    exact ⟨hv.1.symm, hv.2.2.symm⟩
  obtain ⟨rfl, rfl⟩ := e1
  clear hv
  obtain ⟨lb, lo, rfl, _⟩ := at_int hA1 0 (by rw [HK.out.len]; omega)
  have HC := Lib.hid (show ∀ wx, Below w1.heap.size w1 wx → ∀ i, i ≤ m → wx.cell? ⟨lb, lo + i, none⟩ = some (.int .i64 (D i)) from fun wx h i hi => by
    rw [← HK.out.at' i hi]
    exact at_int' (hA1.below h) i (by rw [HK.out.len]; omega))
  have HX := Lib.hid (show ∀ wx, Below w1.heap.size w1 wx → wx.heap[w.heap.size]? = _ from fun wx h => blk_keep (blk_keep hx hb1) h)
  clear x0 x1 x2 x3 x4 x5 x6 x7 x8 hx hb1 ho1 hA1 hbo HD HS
  have HB := Lib.hid (show ∀ wx, Below w1.heap.size w1 wx → wx.cell? ⟨w.heap.size, 7, none⟩ = some (.int .u8 wk) ∧ wx.cell? ⟨w.heap.size, 8, none⟩ = some (.slice a hs.length c) ∧ wx.cell? ⟨w.heap.size, 6, none⟩ = some (.int .u8 roll) ∧ wx.cell? ⟨lb, lo, none⟩ = some (.int .i64 (D 0)) from
    fun wx h => ⟨cell_of (HX.out wx h) 7 _ rfl, cell_of (HX.out wx h) 8 _ rfl, cell_of (HX.out wx h) 6 _ rfl, HC.out wx h 0 (by omega)⟩)
  obtain ⟨x7, x8, x6, q0⟩ := HB.out _ (Below.refl _ _)
  have HRO := Lib.hid (show ∀ i, i ≤ m → ∀ wx, Below w1.heap.size w1 wx → _ from fun i hi wx h => HR.out i hi wx ((HH.out.below c1).below h))
  clear HR HH
  have k0 : Below w1.heap.size w1 w1 := Below.refl _ _
  have kd := k0.drew
  have hm1 : (0 : Int) < (m : Int) + 1 := by omega
  go_wp2_with fail
  go_region_held3 (fun w' => w'.cell? ⟨w.heap.size, 7, none⟩ = some (.int .u8 wk) ∧ w'.cell? ⟨w.heap.size, 8, none⟩ = some (.slice a hs.length c) ∧ w'.cell? ⟨w.heap.size, 6, none⟩ = some (.int .u8 roll) ∧ w'.cell? ⟨lb, lo, none⟩ = some (.int .i64 (D 0)))
    (first | exact HB.out _ (by assumption) | exact HB.out _ (Below.drew (by assumption)) | go_keep)
    ((go_at_call 23; refine (HRO.out 0 (by omega) _ (by first | assumption | exact Below.drew (by assumption))).mono ?_; rintro e w2 ⟨rfl, hb2⟩; have k2 : Below w1.heap.size w1 w2 := bt (by first | assumption | exact Below.drew (by assumption)) hb2 (Nat.le_refl _)))
  all_goals
    clear hb2 kd x7 x8 x6 q0 hm1
    have c2 := bt c1 k2 (Nat.le_refl _)
    rcases HK.out.err 0 (by omega) with h0 | h0
    · rw [h0]
      go_wp2_with fail
      go_loopw [6, 7, 8, 9, 10, 11, 37] (fun o b _ _ _ _ i wr => ∃ (k : Nat) (oa : Option Addr) (oc : Nat), k ≤ m ∧ i = .int .i64 k ∧ o = .slice oa k oc ∧ b = .int .i64 (R k) ∧ Hid (OwnL wr w2.heap.size 50 4 pqc (.slice oa k oc) (perL D R k)) ∧ Hid (∀ j, j ≤ k → E j = 0) ∧ Below w1.heap.size w1 wr ∧ Below w2.heap.size w2 wr) (fun _ _ _ _ _ _ i _ => m - (intOf i).toNat)
      case atStart => exact ⟨0, none, 0, by omega, rfl, rfl, rfl, OwnL.nil _ _ _ _ _, fun j hj => by (obtain rfl : j = 0 := by omega); exact h0, k2, Below.refl _ _⟩
      case round =>
        obtain ⟨k, oa, oc, hk, rfl, rfl, rfl, HO, HZ, hb1, hb2⟩ := hrel
        have cr := bt c1 hb1 (Nat.le_refl _)
        rcases Nat.lt_or_ge k m with hlt | hge
        · have hki : (k : Int) < m := by omega
          have hki1 : (k : Int) < (m : Int) + 1 := by omega
          have q1 : wr.cell? ⟨lb, lo + 1 + k, none⟩ = some (.int .i64 (D (k + 1))) := by
            rw [Nat.add_assoc, Nat.add_comm 1 k]
            exact HC.out wr hb1 (k + 1) (by omega)
          have x7 := cell_of (HX.out wr hb1) 7 _ rfl
          have x8 := cell_of (HX.out wr hb1) 8 _ rfl
          have x6 := cell_of (HX.out wr hb1) 6 _ rfl
          have hlen := perL_len D R k
          go_wp2_with fail
          refine (HRO.out (k + 1) (by omega) wr hb1).mono ?_
          rintro e w3 ⟨rfl, hb3⟩
          have d1 := bt hb1 hb3 (Nat.le_refl _)
          have d2 := bt hb2 hb3 (Nat.le_refl _)
          have d0 := bt cr hb3 (Nat.le_refl _)
          have HO3 := Lib.hid (HO.out.below hb3)
          clear x7 x8 x6 q1 HO hb3
          have q2 := HC.out w3 d1 k (by omega)
          rcases HK.out.err (k + 1) (by omega) with h1 | h1
          · rw [h1]
            have HP := Lib.hid (perL_succ D R k)
            have HZ1 : Hid (∀ j, j ≤ k + 1 → E j = 0) := fun j hj => by
              by_cases e : j = k + 1
              · rw [e]
                exact h1
              · exact HZ.out j (by omega)
            clear h1
            generalize D (k + 1) = d1' at HP ⊢
            generalize D k = d0' at HP q2 ⊢
            generalize hr1 : R (k + 1) = r1' at HP ⊢
            have HR1 := Lib.hid hr1
            clear hr1
            generalize R k = r0' at HP ⊢
            go_wp2_with (at_builtin; refine wpList_append_L (w := w3.alloc (.cells #[.int .i64 d0', .int .i64 d1', .int .i64 r0', .int .i64 r1'] 50)) (P := Try.prog) (α := Int × Int × Int × Int) rfl _ _ _ rfl 50 (.agg #[.int .i64 0, .int .i64 0, .int .i64 0, .int .i64 0]) 4 32 Try.underlying42 infoP rfl (by decide) w2.heap.size pqc (.slice oa k oc) (perL D R k) (d0', d1', r0', r1') w3.heap.size #[.int .i64 d0', .int .i64 d1', .int .i64 r0', .int .i64 r1'] rfl rfl (HO3.out.below ((Below.refl _ _).alloc (Nat.le_refl _) _)) (blk_new w3 _) rfl rfl (pqc_one _) (by rw [hlen]; unfold maxLen; omega) (by rw [hlen]; omega) (by rw [World.size_alloc]; have := d2.size; omega) ?_; intro g9 cap w9 ho9 hg9 _)
            have hOa := HO3.out.below ((Below.refl _ _).alloc (Nat.le_refl _) (.cells #[.int .i64 d0', .int .i64 d1', .int .i64 r0', .int .i64 r1'] 50))
            have s2 := k2.size
            have s3 := d2.size
            have f1 : Below w1.heap.size w1 w9 := (d1.alloc (by omega) _).grown hg9 (by rw [World.size_alloc]; omega) (fun j hj => by have := (hOa.lt j hj).1; omega)
            have f2 : Below w2.heap.size w2 w9 := (d2.alloc (by omega) _).grown hg9 (by rw [World.size_alloc]; omega) (fun j hj => (hOa.lt j hj).1)
            rw [hlen] at ho9
            go_roundw
            case rel =>
              refine ⟨k + 1, some ⟨g9, 0, none⟩, cap, by omega, by go_num, rfl, by rw [HR1.out], ?_, HZ1, f1, f2⟩
              unfold Hid
              rw [HP.out]
              exact ho9
            case measure => simp [intOf]; omega
          · obtain ⟨hP, hg⟩ := HK.out.bad (k + 1) (by omega) h1
            subst hP
            subst hg
            rw [h1]
            go_wp2
            go_ret2
            exact ⟨none, 0, rfl, OwnL.nil _ _ _ _ _, d0⟩
        · obtain rfl : k = m := by omega
          obtain ⟨hP, hg⟩ := HK.out.ok HZ.out
          subst hP
          subst hg
          have hlen := perL_len D R k
          go_wp2
          go_ret2
          refine ⟨oa, oc, by rw [hlen]; rfl, ?_, cr⟩
          rw [hlen]
          exact OwnL.lower' HO.out (by have := c2.size; omega)
    · obtain ⟨hP, hg⟩ := HK.out.bad 0 (by omega) h0
      subst hP
      subst hg
      rw [h0]
      go_wp2
      go_ret2
      exact ⟨none, 0, rfl, OwnL.nil _ _ _ _ _, c2⟩

end Go.Proofs.Ytainmmdlbajpnaa.Sc
