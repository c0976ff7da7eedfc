/-
  Collateral: the walks of Check, the program's and the reference's.
-/
import Derived.Test.YtbfgnkakcnhojaaCoA
import Derived.Test.YtbfgnkakcnhojaaCoB
namespace Go.Proofs.Ytbfgnkakcnhojaa.Co
open Go.RowKit Go.Proofs.Ytbfgnkakcnhojaa Go.Proofs.Ytbfgnkakcnhojaa.Ls Go.Proofs.Ytbfgnkakcnhojaa.Kb
open Go.Proofs.Ytbfgnkakcnhojaa.Nm hiding ret_bool ret_int

theorem tab_sorted {A : List As} {I : List (ByteArray × Int)} (h : tabB A I = true) : A.length ≤ 32 ∧ I.length ≤ 32 ∧ (Sorted A.length fun i => (ga A i).nm) ∧ (Sorted I.length fun i => (gi I i).1) := by
  unfold tabB at h
  simp only [Bool.and_eq_true, decide_eq_true_eq] at h
  obtain ⟨⟨⟨h1, h2⟩, h3⟩, h4⟩ := h
  exact ⟨h1, h2, elB_sorted (fun i hi => allB_at h4 i hi), elB_sorted (fun i hi => allB_at h3 i hi)⟩
theorem lk_new (wr w3 : World) (hb : Below wr.drew.heap.size wr.drew w3) (o : Array Value) (T : TypeId) : (w3.alloc (.cells o T)).heap[w3.heap.size]? = some (.cells o T (0, 0)) ∧ Below wr.heap.size wr (w3.alloc (.cells o T)) ∧ wr.heap.size ≤ w3.heap.size :=
  ⟨blk_new w3 _, (bt (Below.drew (Below.refl _ wr)) hb (Nat.le_refl _)).alloc hb.size _, hb.size⟩
theorem lk_set (wr w3 : World) (T : TypeId) (hb : Below (wr.drew.alloc (.cells #[.string ⟨#[]⟩, .string ⟨#[]⟩, .int .i64 0, .int .i64 0, .int .i64 0, .bool false] T)).heap.size (wr.drew.alloc (.cells #[.string ⟨#[]⟩, .string ⟨#[]⟩, .int .i64 0, .int .i64 0, .int .i64 0, .bool false] T)) w3) (x y z u v q : Value) :
    ((((((w3.setCell ⟨wr.heap.size, 0, none⟩ x).setCell ⟨wr.heap.size, 1, none⟩ y).setCell ⟨wr.heap.size, 2, none⟩ z).setCell ⟨wr.heap.size, 3, none⟩ u).setCell ⟨wr.heap.size, 4, none⟩ v).setCell ⟨wr.heap.size, 5, none⟩ q).heap[wr.heap.size]? = some (.cells #[x, y, z, u, v, q] T (0, 0)) ∧
      Below wr.heap.size wr ((((((w3.setCell ⟨wr.heap.size, 0, none⟩ x).setCell ⟨wr.heap.size, 1, none⟩ y).setCell ⟨wr.heap.size, 2, none⟩ z).setCell ⟨wr.heap.size, 3, none⟩ u).setCell ⟨wr.heap.size, 4, none⟩ v).setCell ⟨wr.heap.size, 5, none⟩ q) ∧ wr.heap.size ≤ wr.heap.size := by
  have h := blk_keep (blk_new wr.drew (.cells #[.string ⟨#[]⟩, .string ⟨#[]⟩, .int .i64 0, .int .i64 0, .int .i64 0, .bool false] T)) hb
  have k : Below wr.heap.size wr w3 := bt ((Below.drew (Below.refl _ wr)).alloc (Nat.le_refl _) _) hb (Nat.le_refl _)
  exact ⟨set6 h _ _ _ _ _ _, (((((k.setCell (Nat.le_refl _) _).setCell (Nat.le_refl _) _).setCell (Nat.le_refl _) _).setCell (Nat.le_refl _) _).setCell (Nat.le_refl _) _).setCell (Nat.le_refl _) _, Nat.le_refl _⟩
def BoxT (w : World) (aA aI : Option Addr) (nA cA nI cI : Nat) (b : Nat) : Prop := w.heap[b]? = some (.cells #[.slice aA nA cA, .slice aI nI cI] 25 (0, 0))

set_option maxRecDepth 100000 in
set_option maxHeartbeats 4000000 in
theorem check_any (aA aI aL : Option Addr) (cA cI cL : Nat) (A : List As) (I L : List (ByteArray × Int)) (w : World) (hnA : A.length ≤ 1000) (hnI : I.length ≤ 1000) (hnL : L.length ≤ 1000) (hZA : SzA A) (hZI : SzL I) (hZL : SzL L) (hA : AtL w 6 asc aA A) (hI : AtL w 2 isc aI I) (hL : AtL w 2 isc aL L) :
    Calls Try.prog 25 #[.agg #[.slice aA A.length cA, .slice aI I.length cI], .slice aL L.length cL] w fun e w' => e = .returned (.int .i64 (eV (fitB A I L))) ∧ Below w.heap.size w w' := by
  have HA := Lib.hid hA
  have HI := Lib.hid hI
  have HL := Lib.hid hL
  have hbo : Below w.heap.size w (w.alloc (.cells #[.slice aA A.length cA, .slice aI I.length cI] 25)) := (Below.refl _ _).alloc (Nat.le_refl _) _
  have HX0 := Lib.hid (blk_new w (.cells #[.slice aA A.length cA, .slice aI I.length cI] 25))
  obtain ⟨W, hW⟩ : ∃ W, W = fitB A I L := ⟨_, rfl⟩
  rw [← hW]
  have HW := Lib.hid (show W = (tabB A I && holB L && allB L.length fun i => (fnA A (gi L i).1).isSome) from hW)
  have HTS := Lib.hid (fun h => tab_sorted (A := A) (I := I) h)
  clear hA hI hL hW
  go_enter Try.func25, Try.ntmps25
  go_wp2_with fail
  generalize w.alloc _ = wo at hbo HX0 ⊢
  refine (table_any aA aI cA cI A I wo hnA hnI hZA hZI (HA.out.below hbo) (HI.out.below hbo)).mono ?_
  rintro e w1 ⟨rfl, hb1⟩
  have HX1 := Lib.hid (blk_keep HX0.out hb1)
  have c1 := bt hbo hb1 (Nat.le_refl _)
  clear hb1 hbo HX0
  rcases hb (tabB A I) with ht | ht
  · rw [ht] at HW ⊢
    have HT := Lib.hid (HTS.out ht)
    clear ht HTS
    rw [show eV true = 0 from rfl]
    go_wp2_with fail
    refine (holdings_any aL cL L w1 hnL hZL (HL.out.below c1)).mono ?_
    rintro e w2 ⟨rfl, hb2⟩
    have HX2 := Lib.hid (blk_keep HX1.out hb2)
    have c2 := bt c1 hb2 (Nat.le_refl _)
    clear hb2 c1 HX1
    rcases hb (holB L) with hh | hh
    · rw [hh] at HW ⊢
      clear hh
      rw [show eV true = 0 from rfl]
      go_wp2_with fail
      have hx0 : w2.cell? ⟨w.heap.size, 0, none⟩ = some (.slice aA A.length cA) := cell_of HX2.out 0 _ rfl
      go_loopw [6, 7, 8, 19] (fun _ _ _ i wr => ∃ k : Nat, k ≤ L.length ∧ i = .int .i64 k ∧ Hid (∀ i, i < k → (fnA A (gi L i).1).isSome = true) ∧ Below w.heap.size w wr ∧ Hid (wr.heap[w.heap.size]? = some (.cells #[.slice aA A.length cA, .slice aI I.length cI] 25 (0, 0)))) (fun _ _ _ i _ => L.length - (intOf i).toNat)
      case atStart => exact ⟨0, by omega, rfl, fun i hi => by omega, c2, HX2⟩
      case round =>
        clear HX2 c2 hx0
        obtain ⟨k, hk, rfl, HG, hbw, HX⟩ := hrel
        have hx0 : wr.cell? ⟨w.heap.size, 0, none⟩ = some (.slice aA A.length cA) := cell_of HX.out 0 _ rfl
        have hx1 : wr.cell? ⟨w.heap.size, 1, none⟩ = some (.slice aI I.length cI) := cell_of HX.out 1 _ rfl
        have hxl := blk_lt HX.out
        rcases Nat.lt_or_ge k L.length with hlt | hge
        · have hki : (k : Int) < L.length := by omega
          obtain ⟨lb, lo, rfl, q0, q1⟩ := at_is (HL.out.below hbw) k hlt
          change _ = some (Value.string (gi L k).1) at q0
          change _ = some (Value.int .i64 (gi L k).2) at q1
          have hbs : lb < wr.heap.size := World.block_lt_of_cell? _ _ q0
          have HRES := Lib.hid (fun (v : World) (hv : AtL v 6 asc aA A) => asset_any aA aI cA cI I.length A (gi L k).1 (fnA A (gi L k).1) v hnA hv HT.out.2.2.1 (fidx_first _ _ _).found)
          have HGK : Hid (∀ b, (fnA A (gi L k).1).isSome = b → b = true → ∀ i, i < k + 1 → (fnA A (gi L i).1).isSome = true) := fun b h1 h2 => succ_all (P := fun i => (fnA A (gi L i).1).isSome) HG.out (h1.trans h2)
          have HNO : Hid ((fnA A (gi L k).1).isSome = false → (allB L.length fun i => (fnA A (gi L i).1).isSome) = false) := fun h => allB_no k hlt h
          have hbz : Below w.heap.size w (wr.alloc (.cells #[.string (gi L k).1, .int .i64 (gi L k).2] 56)) := hbw.alloc hbw.size _
          have HX1 := Lib.hid (blk_past wr (.cells #[.string (gi L k).1, .int .i64 (gi L k).2] 56) HX.out)
          clear HG
          generalize gi L k = x at q0 q1 HRES HGK HNO hbz HX1
          generalize oa A (fnA A x.1) = y at HRES
          generalize (fnA A x.1).isSome = s at HRES HGK HNO
          go_wp2_with fail
          refine (HRES.out _ (HA.out.below hbz)).mono ?_
          rintro e w3 ⟨rfl, hb3⟩
          have c3 := bt hbz hb3 (Nat.le_refl _)
          have HX3 := Lib.hid (blk_past w3 (.cells #[.string y.nm, .string y.iss, .int .i64 y.pr, .int .i64 y.hc, .int .i64 y.mo, .bool y.el] 48) (blk_keep HX1.out hb3))
          have c4 : Below w.heap.size w (w3.alloc (.cells #[.string y.nm, .string y.iss, .int .i64 y.pr, .int .i64 y.hc, .int .i64 y.mo, .bool y.el] 48)) := c3.alloc c3.size _
          clear hb3 hbz c3 HX1
          cases s
          · have HN2 := Lib.hid (HNO.out rfl)
            go_wp2
            go_ret
            exact ⟨ret_int (by rw [HW.out, HN2.out, Bool.and_false]; rfl), c4⟩
          · have HG2 := Lib.hid (HGK.out true rfl rfl)
            go_wp2
            go_roundw
            case rel => exact ⟨k + 1, by omega, by go_num, HG2, c4, HX3⟩
            case measure => simp [intOf]; omega
        · obtain rfl : k = L.length := by omega
          have HALL := Lib.hid (show (allB L.length fun i => (fnA A (gi L i).1).isSome) = true from allB_yes HG.out)
          go_wp2
          go_ret
          exact ⟨ret_int (by rw [HW.out, HALL.out]; rfl), hbw⟩
    · rw [hh] at HW ⊢
      clear hh
      rw [show eV false = 8 from rfl]
      go_wp2
      go_ret
      exact ⟨ret_int (by rw [HW.out, Bool.and_false, Bool.false_and]; rfl), c2⟩
  · rw [ht] at HW ⊢
    clear ht
    rw [show eV false = 8 from rfl]
    go_wp2
    go_ret
    exact ⟨ret_int (by rw [HW.out, Bool.false_and, Bool.false_and]; rfl), c1⟩

set_option maxRecDepth 100000 in
set_option maxHeartbeats 4000000 in
theorem rcheck_any (aA aI aL : Option Addr) (cA cI cL : Nat) (A : List As) (I L : List (ByteArray × Int)) (w : World) (hnA : A.length ≤ 1000) (hnI : I.length ≤ 1000) (hnL : L.length ≤ 1000) (hZA : SzA A) (hZI : SzL I) (hZL : SzL L) (hA : AtL w 6 asc aA A) (hI : AtL w 2 isc aI I) (hL : AtL w 2 isc aL L) :
    Calls Try.prog 26 #[.agg #[.slice aA A.length cA, .slice aI I.length cI], .slice aL L.length cL] w fun e w' => e = .returned (.int .i64 (eV (fitB A I L))) ∧ Below w.heap.size w w' := by
  have HA := Lib.hid hA
  have HI := Lib.hid hI
  have HL := Lib.hid hL
  have hbo : Below w.heap.size w (w.alloc (.cells #[.slice aA A.length cA, .slice aI I.length cI] 25)) := (Below.refl _ _).alloc (Nat.le_refl _) _
  have HX0 := Lib.hid (blk_new w (.cells #[.slice aA A.length cA, .slice aI I.length cI] 25))
  obtain ⟨W, hW⟩ : ∃ W, W = fitB A I L := ⟨_, rfl⟩
  rw [← hW]
  have HW := Lib.hid (show W = (tabB A I && holB L && allB L.length fun i => (fnA A (gi L i).1).isSome) from hW)
  clear hA hI hL hW
  go_enter Try.func26, Try.ntmps26
  go_wp2_with fail
  generalize w.alloc _ = wo at hbo HX0 ⊢
  refine (rtable_any aA aI cA cI A I wo hnA hnI hZA hZI (HA.out.below hbo) (HI.out.below hbo)).mono ?_
  rintro e w1 ⟨rfl, hb1⟩
  have HX1 := Lib.hid (blk_keep HX0.out hb1)
  have c1 := bt hbo hb1 (Nat.le_refl _)
  clear hb1 hbo HX0
  rcases hb (tabB A I) with ht | ht
  · rw [ht] at HW ⊢
    clear ht
    rw [show eV true = 0 from rfl]
    go_wp2_with fail
    refine (rholdings_any aL cL L w1 hnL hZL (HL.out.below c1)).mono ?_
    rintro e w2 ⟨rfl, hb2⟩
    have HX2 := Lib.hid (blk_keep HX1.out hb2)
    have c2 := bt c1 hb2 (Nat.le_refl _)
    clear hb2 c1 HX1
    rcases hb (holB L) with hh | hh
    · rw [hh] at HW ⊢
      clear hh
      go_wp2_with fail
      go_loopw [5, 6, 7] (fun i _ _ wr => ∃ k : Nat, k ≤ L.length ∧ i = .int .i64 k ∧ Hid (∀ i, i < k → (fnA A (gi L i).1).isSome = true) ∧ Below w.heap.size w wr ∧ Hid (wr.heap[w.heap.size]? = some (.cells #[.slice aA A.length cA, .slice aI I.length cI] 25 (0, 0)))) (fun i _ _ _ => L.length - (intOf i).toNat)
      case atStart => exact ⟨0, by omega, rfl, fun i hi => by omega, c2, HX2⟩
      case round =>
        clear HX2 c2
        obtain ⟨k, hk, rfl, HG, hbw, HX⟩ := hrel
        rcases Nat.lt_or_ge k L.length with hlt | hge
        · have hki : (k : Int) < L.length := by omega
          have hk0 : (0 : Int) ≤ (k : Int) := by omega
          obtain ⟨lb, lo, rfl, q0, _⟩ := at_is (HL.out.below hbw) k hlt
          change _ = some (Value.string (gi L k).1) at q0
          have HB := Lib.hid (show ∀ wx, Below wr.heap.size wr wx → wx.cell? ⟨w.heap.size, 0, none⟩ = some (.slice aA A.length cA) ∧ wx.cell? ⟨w.heap.size, 1, none⟩ = some (.slice aI I.length cI) ∧ wx.cell? ⟨lb, lo + k * 2, none⟩ = some (.string (gi L k).1) from
            fun wx h => ⟨cell_of (blk_keep HX.out h) 0 _ rfl, cell_of (blk_keep HX.out h) 1 _ rfl, keep q0 h⟩)
          have HRES := Lib.hid (fun (v : World) (hv : Below wr.heap.size wr v) => rasset_any aA aI cA cI I.length A (gi L k).1 (fnA A (gi L k).1) v hnA (HA.out.below (hbw.trans (hv.mono hbw.size))) (fidx_first _ _ _))
          have HGK : Hid (∀ b, (fnA A (gi L k).1).isSome = b → b = true → ∀ i, i < k + 1 → (fnA A (gi L i).1).isSome = true) := fun b h1 h2 => succ_all (P := fun i => (fnA A (gi L i).1).isSome) HG.out (h1.trans h2)
          have HNO : Hid ((fnA A (gi L k).1).isSome = false → (allB L.length fun i => (fnA A (gi L i).1).isSome) = false) := fun h => allB_no k hlt h
          clear HG q0
          generalize gi L k = x at HRES HGK HNO HB
          generalize oa A (fnA A x.1) = y at HRES
          generalize (fnA A x.1).isSome = s at HRES HGK HNO
          obtain ⟨x0, x1, q0⟩ := HB.out _ (Below.refl _ _)
          have hbs : lb < wr.heap.size := World.block_lt_of_cell? _ _ q0
          have hxl := blk_lt HX.out
          go_upto_region 6 with fail
          go_cut [6, 7] from 22 to 31 (fun p q wn => ∃ B : Nat, p = .pointer (some ⟨B, 0, none⟩) ∧ q = .bool s ∧ Hid (wn.heap[B]? = some (.cells #[.string y.nm, .string y.iss, .int .i64 y.pr, .int .i64 y.hc, .int .i64 y.mo, .bool y.el] 48 (0, 0)) ∧ Below wr.heap.size wr wn ∧ wr.heap.size ≤ B))
          case first =>
            have n1 : wr.heap.size ≠ w.heap.size := by omega
            have n2 : wr.heap.size ≠ lb := by omega
            go_region_held3 (fun w' => w'.cell? ⟨w.heap.size, 0, none⟩ = some (.slice aA A.length cA) ∧ w'.cell? ⟨w.heap.size, 1, none⟩ = some (.slice aI I.length cI) ∧ w'.cell? ⟨lb, lo + k * 2, none⟩ = some (.string x.1))
              (first | (go_split_ands; refine ⟨?_, ?_, ?_⟩ <;> go_keep; done) | (go_split_ands; refine ⟨?_, ?_, ?_⟩ <;> refine keep ?_ hb3 <;> go_keep; done))
              (first
                | (go_at_call 36; refine (HRES.out wr.drew (Below.drew (Below.refl _ _))).mono ?_; rintro e w3 ⟨rfl, hb3⟩; have e0 : wr.heap.size ≤ w3.heap.size := hb3.size; have e1 : w3.heap.size ≠ w.heap.size := (by omega); have e2 : w3.heap.size ≠ lb := (by omega); have y0 : w3.cell? ⟨w.heap.size, 0, none⟩ = some (.slice aA A.length cA) := keep (w := wr.drew) x0 hb3; have y1 : w3.cell? ⟨w.heap.size, 1, none⟩ = some (.slice aI I.length cI) := keep (w := wr.drew) x1 hb3; have y2 : w3.cell? ⟨lb, lo + k * 2, none⟩ = some (.string x.1) := keep (w := wr.drew) q0 hb3; have HFN := Lib.hid (lk_new wr w3 hb3 #[.string y.nm, .string y.iss, .int .i64 y.pr, .int .i64 y.hc, .int .i64 y.mo, .bool y.el] 48))
                | (go_at_call 36; refine (HRES.out (wr.drew.alloc (.cells #[.string ⟨#[]⟩, .string ⟨#[]⟩, .int .i64 0, .int .i64 0, .int .i64 0, .bool false] 48)) ((Below.drew (Below.refl _ _)).alloc (Nat.le_refl _) _)).mono ?_; rintro e w3 ⟨rfl, hb3⟩; have zz := blk_keep (blk_new wr.drew (.cells #[.string ⟨#[]⟩, .string ⟨#[]⟩, .int .i64 0, .int .i64 0, .int .i64 0, .bool false] 48)) hb3; have z0 : w3.cell? ⟨wr.heap.size, 0, none⟩ = some (.string ⟨#[]⟩) := cell_of zz 0 _ rfl; have f0 : w3.frozen? ⟨wr.heap.size, 0, none⟩ = false := frozen_of zz 0; have z1 : w3.cell? ⟨wr.heap.size, 1, none⟩ = some (.string ⟨#[]⟩) := cell_of zz 1 _ rfl; have f1 : w3.frozen? ⟨wr.heap.size, 1, none⟩ = false := frozen_of zz 1; have z2 : w3.cell? ⟨wr.heap.size, 2, none⟩ = some (.int .i64 0) := cell_of zz 2 _ rfl; have f2 : w3.frozen? ⟨wr.heap.size, 2, none⟩ = false := frozen_of zz 2; have z3 : w3.cell? ⟨wr.heap.size, 3, none⟩ = some (.int .i64 0) := cell_of zz 3 _ rfl; have f3 : w3.frozen? ⟨wr.heap.size, 3, none⟩ = false := frozen_of zz 3; have z4 : w3.cell? ⟨wr.heap.size, 4, none⟩ = some (.int .i64 0) := cell_of zz 4 _ rfl; have f4 : w3.frozen? ⟨wr.heap.size, 4, none⟩ = false := frozen_of zz 4; have z5 : w3.cell? ⟨wr.heap.size, 5, none⟩ = some (.bool false) := cell_of zz 5 _ rfl; have f5 : w3.frozen? ⟨wr.heap.size, 5, none⟩ = false := frozen_of zz 5; have HFN := Lib.hid (lk_set wr w3 48 hb3 (.string y.nm) (.string y.iss) (.int .i64 y.pr) (.int .i64 y.hc) (.int .i64 y.mo) (.bool y.el))))
            all_goals
              go_wp2
              go_meet
              case rel => exact ⟨_, rfl, rfl, Lib.hid HFN.out⟩
          case rest =>
            obtain ⟨BX, rfl, rfl, HBX⟩ := hcut
            have c4 := Lib.hid (hbw.trans (HBX.out.2.1.mono hbw.size))
            have HX4 := Lib.hid (blk_keep HX.out HBX.out.2.1)
            clear HB HRES HX hbw x0 x1 q0 HBX
            cases s
            · have HN2 := Lib.hid (HNO.out rfl)
              go_wp2
              go_ret
              exact ⟨ret_int (by rw [HW.out, HN2.out, Bool.and_false]; rfl), c4.out⟩
            · have HG2 := Lib.hid (HGK.out true rfl rfl)
              go_wp2
              go_roundw
              case rel => exact ⟨k + 1, by omega, by go_num, HG2, c4.out, HX4⟩
              case measure => simp [intOf]; omega
        · obtain rfl : k = L.length := by omega
          have HALL := Lib.hid (show (allB L.length fun i => (fnA A (gi L i).1).isSome) = true from allB_yes HG.out)
          go_wp2
          go_ret
          exact ⟨ret_int (by rw [HW.out, HALL.out]; rfl), hbw⟩
    · rw [hh] at HW ⊢
      clear hh
      go_wp2
      go_ret
      exact ⟨ret_int (by rw [HW.out, Bool.and_false, Bool.false_and]; rfl), c2⟩
  · rw [ht] at HW ⊢
    clear ht
    rw [show eV false = 8 from rfl]
    go_wp2
    go_ret
    exact ⟨ret_int (by rw [HW.out, Bool.false_and, Bool.false_and]; rfl), c1⟩
end Go.Proofs.Ytbfgnkakcnhojaa.Co
