/-
  The reference: the walk of Periods.
-/
import Derived.Test.YtainmmdlbajpnaaClG
import Derived.Test.YtainmmdlbajpnaaClF
namespace Go.Proofs.Ytainmmdlbajpnaa.Sc
open Go.RowKit Go.Proofs.Ytainmmdlbajpnaa Go.Proofs.Ytainmmdlbajpnaa.Ls Go.Proofs.Ytainmmdlbajpnaa.Kb
open Go.Proofs.Ytainmmdlbajpnaa.Dt hiding ret_bool ret_int

set_option maxRecDepth 100000 in
set_option maxHeartbeats 4000000 in
theorem rperiods_walk (s : Sch) (L : List Int) (m : Nat) (D R E : Nat → Int) (P : List (Int × Int × Int × Int)) (g : Int) {w : World} (hS : SchAt w s) (hK : PerK s L m D R E P g)
    (hD : ∀ w', SchAt w' s → Calls Try.prog 17 #[.agg s.cells] w' fun e w'' => ∃ a c, e = .returned (.tuple #[.slice a L.length c, .int .i64 0]) ∧ OwnL w'' w'.heap.size 3 1 ic (.slice a L.length c) L ∧ Below w'.heap.size w' w'')
    (hR : ∀ i, i ≤ m → ∀ w', AtL w' 1 ic s.a s.hs → Calls Try.prog 37 #[.agg #[.int .u8 s.wk, .slice s.a s.hs.length s.c], .int .i64 (D i), .int .u8 s.roll] w' fun o w'' => o = .returned (.tuple #[.int .i64 (R i), .int .i64 (E i)]) ∧ Below w'.heap.size w' w'') :
    Calls Try.prog 19 #[.agg s.cells] w fun e w' => ∃ a c, e = .returned (.tuple #[.slice a P.length c, .int .i64 g]) ∧ OwnL w' w.heap.size 50 4 pqc (.slice a P.length c) P ∧ Below w.heap.size w w' := by
  have HD := Lib.hid hD
  have HR := Lib.hid hR
  have HS := Lib.hid hS
  have HH := Lib.hid hS.at'
  have HK := Lib.hid hK
  have hlo := hK.lo
  have hhi := hK.hi
  clear hD hR hS hK
  obtain ⟨S, En, Mo, back, last, stub, roll, wk, a, c, hs⟩ := s
  simp only [Sch.cells] at *
  have hx := blk_new w (.cells #[.int .i64 S, .int .i64 En, .int .i64 Mo, .bool back, .bool last, .int .u8 stub, .int .u8 roll, .int .u8 wk, .slice a hs.length c] 26)
  have hbo : Below w.heap.size w (w.alloc (.cells #[.int .i64 S, .int .i64 En, .int .i64 Mo, .bool back, .bool last, .int .u8 stub, .int .u8 roll, .int .u8 wk, .slice a hs.length c] 26)) := (Below.refl _ _).alloc (Nat.le_refl _) _
  go_enter Try.func19, Try.ntmps19
  go_wp2_with fail
  generalize w.alloc _ = wo at hx hbo ⊢
  have x0 := cell_of hx 0 _ rfl
  have x1 := cell_of hx 1 _ rfl
  have x2 := cell_of hx 2 _ rfl
  have x3 := cell_of hx 3 _ rfl
  have x4 := cell_of hx 4 _ rfl
  have x5 := cell_of hx 5 _ rfl
  have x6 := cell_of hx 6 _ rfl
  have x7 := cell_of hx 7 _ rfl
  have x8 := cell_of hx 8 _ rfl
  go_wp2_with fail
  refine (HD.out wo (HS.out.below hbo)).mono ?_
  rintro e w1 ⟨la, lc, rfl, ho1, hb1⟩
  rw [HK.out.len] at ho1 ⊢
  have c1 := bt hbo hb1 (Nat.le_refl _)
  obtain ⟨la', lc', hv, hA1, hlc, _⟩ := ho1.read ic_len
  rw [HK.out.len] at hv hlc
  have e1 : la' = la ∧ lc' = lc := by
    simp only [Value.slice.injEq] at hv
    exact ⟨hv.1.symm, hv.2.2.symm⟩
  obtain ⟨rfl, rfl⟩ := e1
  clear hv
  obtain ⟨lb, lo, rfl, _⟩ := at_int hA1 0 (by rw [HK.out.len]; omega)
  have HC := Lib.hid (show ∀ wx, Below w1.heap.size w1 wx → ∀ i, i ≤ m → wx.cell? ⟨lb, lo + i, none⟩ = some (.int .i64 (D i)) from fun wx h i hi => by
    rw [← HK.out.at' i hi]
    exact at_int' (hA1.below h) i (by rw [HK.out.len]; omega))
  have HX := Lib.hid (show ∀ wx, Below w1.heap.size w1 wx → wx.heap[w.heap.size]? = _ from fun wx h => blk_keep (blk_keep hx hb1) h)
  clear x0 x1 x2 x3 x4 x5 x6 x7 x8 hx hb1 ho1 hA1 hbo HD HS
  have HB := Lib.hid (show ∀ wx, Below w1.heap.size w1 wx → ∀ i, i ≤ m → wx.cell? ⟨w.heap.size, 7, none⟩ = some (.int .u8 wk) ∧ wx.cell? ⟨w.heap.size, 8, none⟩ = some (.slice a hs.length c) ∧ wx.cell? ⟨w.heap.size, 6, none⟩ = some (.int .u8 roll) ∧ wx.cell? ⟨lb, lo + i, none⟩ = some (.int .i64 (D i)) from
    fun wx h i hi => ⟨cell_of (HX.out wx h) 7 _ rfl, cell_of (HX.out wx h) 8 _ rfl, cell_of (HX.out wx h) 6 _ rfl, HC.out wx h i hi⟩)
  have HRO := Lib.hid (show ∀ i, i ≤ m → ∀ wx, Below w1.heap.size w1 wx → _ from fun i hi wx h => HR.out i hi wx ((HH.out.below c1).below h))
  clear HR HH
  go_wp2_with fail
  go_loopw [6, 7, 8, 9, 10, 11] (fun o i _ _ _ _ wr => ∃ (k : Nat) (oa : Option Addr) (oc : Nat), k ≤ m ∧ i = .int .i64 k ∧ o = .slice oa k oc ∧ Hid (OwnL wr w1.heap.size 50 4 pqc (.slice oa k oc) (perL D R k)) ∧ Hid (1 ≤ k → ∀ j, j ≤ k → E j = 0) ∧ Below w1.heap.size w1 wr) (fun _ i _ _ _ _ _ => m - (intOf i).toNat)
  case atStart => exact ⟨0, none, 0, by omega, rfl, rfl, OwnL.nil _ _ _ _ _, fun h => by omega, Below.refl _ _⟩
  case round =>
    obtain ⟨k, oa, oc, hk, rfl, rfl, HO, HZ, hb1⟩ := hrel
    have cr := bt c1 hb1 (Nat.le_refl _)
    rcases Nat.lt_or_ge k m with hlt | hge
    · have hki : (k : Int) < m := by omega
      have hki1 : (k : Int) < (m : Int) + 1 := by omega
      have hki2 : IntKind.i64.wrap ((k : Int) + 1) = (k : Int) + 1 := by rw [IntKind.wrap_i64]; omega
      have hki3 : ((k : Int) + 1).toNat = k + 1 := by omega
      have hki4 : (0 : Int) ≤ (k : Int) + 1 := by omega
      have hki5 : (k : Int) ≤ (m : Int) + 1 := by omega
      obtain ⟨x7, x8, x6, q0⟩ := HB.out _ hb1 k (by omega)
      have kd := hb1.drew
      have r0 : Below wr.heap.size wr wr := Below.refl _ _
      have rd := r0.drew
      have hlen := perL_len D R k
      go_wp2_with fail
      go_region_held3 (fun w' => w'.cell? ⟨w.heap.size, 7, none⟩ = some (.int .u8 wk) ∧ w'.cell? ⟨w.heap.size, 8, none⟩ = some (.slice a hs.length c) ∧ w'.cell? ⟨w.heap.size, 6, none⟩ = some (.int .u8 roll) ∧ w'.cell? ⟨lb, lo + k, none⟩ = some (.int .i64 (D k)))
        (first | exact HB.out _ (by assumption) k (by omega) | exact HB.out _ (Below.drew (by assumption)) k (by omega) | go_keep)
        ((go_at_call 37; refine (HRO.out k (by omega) _ (by first | assumption | exact Below.drew (by assumption))).mono ?_; rintro e w2 ⟨rfl, hb2⟩; have k2 : Below w1.heap.size w1 w2 := bt (by first | assumption | exact Below.drew (by assumption)) hb2 (Nat.le_refl _); have r2 : Below wr.heap.size wr w2 := bt (by first | assumption | exact Below.drew (by assumption)) hb2 (Nat.le_refl _)))
      all_goals
        clear x7 x8 x6 q0 kd r0 rd hb2
        obtain ⟨x7, x8, x6, q0⟩ := HB.out _ k2 (k + 1) (by omega)
        have kd := k2.drew
        have r0 : Below w2.heap.size w2 w2 := Below.refl _ _
        have rd := r0.drew
        go_wp2_with fail
        go_region_held3 (fun w' => w'.cell? ⟨w.heap.size, 7, none⟩ = some (.int .u8 wk) ∧ w'.cell? ⟨w.heap.size, 8, none⟩ = some (.slice a hs.length c) ∧ w'.cell? ⟨w.heap.size, 6, none⟩ = some (.int .u8 roll) ∧ w'.cell? ⟨lb, lo + (k + 1), none⟩ = some (.int .i64 (D (k + 1))))
          (first | exact HB.out _ (by assumption) (k + 1) (by omega) | exact HB.out _ (Below.drew (by assumption)) (k + 1) (by omega) | go_keep)
          ((go_at_call 37; refine (HRO.out (k + 1) (by omega) _ (by first | assumption | exact Below.drew (by assumption))).mono ?_; rintro e w3 ⟨rfl, hb3⟩; have k3 : Below w1.heap.size w1 w3 := bt (by first | assumption | exact Below.drew (by assumption)) hb3 (Nat.le_refl _); have r3 : Below w2.heap.size w2 w3 := bt (by first | assumption | exact Below.drew (by assumption)) hb3 (Nat.le_refl _)))
        all_goals
          clear x7 x8 x6 q0 kd r0 rd hb3
          have c3 := bt c1 k3 (Nat.le_refl _)
          have HO3 := Lib.hid (HO.out.below (bt r2 r3 (Nat.le_refl _)))
          clear HO
          rcases HK.out.err k (by omega) with h0 | h0
          · rw [h0]
            rcases HK.out.err (k + 1) (by omega) with h1 | h1
            · rw [h1]
              have HP := Lib.hid (perL_succ D R k)
              have HZ1 : Hid (1 ≤ k + 1 → ∀ j, j ≤ k + 1 → E j = 0) := fun _ j hj => by
                by_cases e : j = k + 1
                · rw [e]
                  exact h1
                · by_cases e2 : j = k
                  · rw [e2]
                    exact h0
                  · exact HZ.out (by omega) j (by omega)
              clear h1 h0
              have q0 := HC.out w3 k3 k (by omega)
              have q1 := HC.out w3 k3 (k + 1) (by omega)
              have HQ := Lib.hid (show ∀ wx, Below w1.heap.size w1 wx → wx.cell? ⟨lb, lo + k, none⟩ = some (.int .i64 (D k)) ∧ wx.cell? ⟨lb, lo + (k + 1), none⟩ = some (.int .i64 (D (k + 1))) from fun wx h => ⟨HC.out wx h k (by omega), HC.out wx h (k + 1) (by omega)⟩)
              generalize D (k + 1) = d1' at HP q1 HQ ⊢
              generalize D k = d0' at HP q0 HQ ⊢
              generalize R (k + 1) = r1' at HP ⊢
              generalize R k = r0' at HP ⊢
              have s3 := k3.size
              have kd := k3.drew
              go_wp2_with fail
              go_region_held3 (fun w' => w'.cell? ⟨lb, lo + k, none⟩ = some (.int .i64 d0') ∧ w'.cell? ⟨lb, lo + (k + 1), none⟩ = some (.int .i64 d1'))
                (first | exact HQ.out _ (by assumption) | exact HQ.out _ (Below.drew (by assumption)) | exact HQ.out _ ((k3.alloc k3.size _).drew) | exact HQ.out _ (k3.drew.alloc k3.size _) | exact HQ.out _ (k3.alloc k3.size _) | go_keep)
                ((refine step_append_L (P := Try.prog) (α := Int × Int × Int × Int) rfl _ _ _ rfl 50 (.agg #[.int .i64 0, .int .i64 0, .int .i64 0, .int .i64 0]) 4 32 Try.underlying42 infoP rfl (by decide) w1.heap.size pqc (.slice oa k oc) (perL D R k) (d0', d1', r0', r1') w3.heap.size #[.int .i64 d0', .int .i64 d1', .int .i64 r0', .int .i64 r1'] (by rfl) (by rfl) (by first | exact HO3.out.below ((Below.refl _ _).drew.alloc (Nat.le_refl _) _) | exact HO3.out.below ((Below.refl _ _).alloc (Nat.le_refl _) _).drew) (by first | exact blk_new _ _ | exact blk_new w3 _) rfl rfl (pqc_one _) (by rw [hlen]; unfold maxLen; omega) (by rw [hlen]; omega) (by simp; omega) ?_; intro g9 cap w9 ho9 hg9 hat9; have f1 : Below w1.heap.size w1 w9 := (by first | exact (k3.drew.alloc k3.size (.cells #[.int .i64 d0', .int .i64 d1', .int .i64 r0', .int .i64 r1'] 50)).grown hg9 (by simp; omega) (fun j hj => (HO3.out.lt j hj).1) | exact (k3.alloc k3.size (.cells #[.int .i64 d0', .int .i64 d1', .int .i64 r0', .int .i64 r1'] 50)).drew.grown hg9 (by simp; omega) (fun j hj => (HO3.out.lt j hj).1))))
              rw [hlen] at ho9
              go_wp2
              go_roundw
              case rel =>
                refine ⟨k + 1, some ⟨g9, 0, none⟩, cap, by omega, by go_num, rfl, ?_, HZ1, f1⟩
                unfold Hid
                rw [HP.out]
                exact ho9
              case measure => simp [intOf]; omega
            · obtain ⟨hP, hg⟩ := HK.out.bad (k + 1) (by omega) h1
              subst hP
              subst hg
              rw [h1]
              go_wp2
              go_ret2
              exact ⟨none, 0, rfl, OwnL.nil _ _ _ _ _, c3⟩
          · obtain ⟨hP, hg⟩ := HK.out.bad k (by omega) h0
            subst hP
            subst hg
            rw [h0]
            go_wp2
            go_ret2
            exact ⟨none, 0, rfl, OwnL.nil _ _ _ _ _, c3⟩
    · obtain rfl : k = m := by omega
      obtain ⟨hP, hg⟩ := HK.out.ok (HZ.out hlo)
      subst hP
      subst hg
      have hlen := perL_len D R k
      go_wp2
      go_ret2
      refine ⟨oa, oc, by rw [hlen]; rfl, ?_, cr⟩
      rw [hlen]
      exact OwnL.lower' HO.out (by have := c1.size; omega)

end Go.Proofs.Ytainmmdlbajpnaa.Sc
