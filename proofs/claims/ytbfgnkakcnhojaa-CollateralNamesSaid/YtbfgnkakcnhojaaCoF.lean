/-
  Collateral: the walk of the reference's Counted.
-/
import Derived.Test.YtbfgnkakcnhojaaCoE
namespace Go.Proofs.Ytbfgnkakcnhojaa.Co
open Go.RowKit Go.Proofs.Ytbfgnkakcnhojaa Go.Proofs.Ytbfgnkakcnhojaa.Ls Go.Proofs.Ytbfgnkakcnhojaa.Kb
open Go.Proofs.Ytbfgnkakcnhojaa.Nm hiding ret_bool ret_int

theorem gl_at (P : List (As × Int)) (m : ByteArray → Int) (j k : Nat) (hj : j < k) (hk : k ≤ P.length) (x : As × Int) (hx : P.take (j + 1) = P.take j ++ [x]) : ((gl (P.take k) m).map Prod.snd)[j]? = some (cvl x.1 x.2 (fin (P.take j) m x.1.iss)) := by
  have h1 : gl (P.take (j + 1)) m = gl (P.take j) m ++ [(x.2 * x.1.pr, cvl x.1 x.2 (fin (P.take j) m x.1.iss))] := by rw [hx, gl_append]
  have h2 : gl (P.take (j + 1)) m <+: gl (P.take k) m := by
    have h3 := gl_pre (P.take (j + 1)) ((P.take k).drop (j + 1)) m
    have e : P.take (j + 1) = (P.take k).take (j + 1) := by rw [List.take_take, Nat.min_eq_left (by omega)]
    have e2 : P.take (j + 1) ++ (P.take k).drop (j + 1) = P.take k := by rw [e, List.take_append_drop]
    rw [e2] at h3
    exact h3
  obtain ⟨t, ht⟩ := h2
  have hl : (gl (P.take j) m).length = j := by rw [gl_len, List.length_take]; omega
  rw [← ht, h1, List.map_append, List.map_append, List.append_assoc, List.getElem?_append_right (by rw [List.length_map, hl]; exact Nat.le_refl _), List.length_map, hl, Nat.sub_self]
  rfl

theorem own_blk {α : Type} {w : World} {B : Nat} {T T' : TypeId} {k : Nat} {f : α → List Value} {v : Value} {xs : List α} {b : Nat} {cs : Array Value} (h : OwnL w B T k f v xs) (h' : w.heap[b]? = some (.cells cs T' (0, 0))) (hT : T ≠ T') : v.ownBlock ≠ some b := by
  rcases h.2 with ⟨rfl, _⟩ | ⟨g, cap, cur, rfl, _, hg, _⟩
  · simp [Value.ownBlock]
  · intro e
    have : g = b := by simpa [Value.ownBlock] using e
    subst this
    rw [hg] at h'
    injection h' with h1
    injection h1 with _ h2
    exact hT h2
theorem app_heap {wi w8 w9 : World} {v : Value} {o : Obj} (k8 : Below wi.heap.size wi w8) (hg9 : (w8.alloc o).grownBy w9 v.ownBlock) {b : Nat} (hb : b < wi.heap.size) (hne : v.ownBlock ≠ some b) : w9.heap[b]? = wi.heap[b]? := by
  have hs := k8.size
  rw [hg9.block b (by simp; omega) (fun e => hne e.symm), Below.heap_alloc w8 o b (by omega), k8.block b hb]
theorem app_cell {wi w8 w9 : World} {v : Value} {o : Obj} (k8 : Below wi.heap.size wi w8) (hg9 : (w8.alloc o).grownBy w9 v.ownBlock) {b off : Nat} {u : Value} (hc : wi.cell? ⟨b, off, none⟩ = some u) (hne : v.ownBlock ≠ some b) : w9.cell? ⟨b, off, none⟩ = some u := by
  rw [← hc]
  exact World.cell?_of_block (app_heap k8 hg9 (World.block_lt_of_cell? _ _ hc) hne)
theorem red_cvl {x : As} (h : asR x) {u l : Int} (hl : 0 ≤ l) : (if l < (if x.mo < red x u then x.mo else red x u) then l else (if x.mo < red x u then x.mo else red x u)) = cvl x u l := by
  obtain ⟨_, _, _, _, m0, _⟩ := h
  unfold red cvl
  cases x.el
  · simp only [Bool.false_eq_true, if_false]
    split <;> split at * <;> omega
  · simp only [if_true]
    split <;> split at * <;> omega
set_option maxRecDepth 100000 in
set_option maxHeartbeats 8000000 in
theorem rcounted_yes (aA aI aL : Option Addr) (cA cI cL : Nat) (A : List As) (I L : List (ByteArray × Int)) (w : World) (hnA : A.length ≤ 1000) (hnI : I.length ≤ 1000) (hnL : L.length ≤ 1000) (hZA : SzA A) (hZI : SzL I) (hZL : SzL L) (hA : AtL w 6 asc aA A) (hI : AtL w 2 isc aI I) (hL : AtL w 2 isc aL L) (hF : fitB A I L = true) :
    Calls Try.prog 17 #[.agg #[.slice aA A.length cA, .slice aI I.length cI], .slice aL L.length cL] w fun e w' => ∃ a c, e = .returned (.tuple #[.slice a L.length c, .int .i64 0]) ∧ OwnL w' w.heap.size 3 1 ic (.slice a L.length c) ((gl (mkP A L) (moF I)).map Prod.snd) ∧ Below w.heap.size w w' := by
  have HFT := Lib.hid (fits_of hF)
  have hlL := (fits_of hF).lL
  have hbo : Below w.heap.size w (w.alloc (.cells #[.slice aA A.length cA, .slice aI I.length cI] 25)) := (Below.refl _ _).alloc (Nat.le_refl _) _
  have HX0 := Lib.hid (blk_new w (.cells #[.slice aA A.length cA, .slice aI I.length cI] 25))
  have HC := Lib.hid (rcheck_any aA aI aL cA cI cL A I L _ hnA hnI hnL hZA hZI hZL (hA.below hbo) (hI.below hbo) (hL.below hbo))
  rw [hF] at HC
  have HA := Lib.hid hA
  have HI := Lib.hid hI
  have HL := Lib.hid hL
  have HLEN := Lib.hid (mkP_len A L)
  have HIN := Lib.hid (mkP_in HFT.out)
  have HTK := Lib.hid (mkP_take A L)
  have HM0 := Lib.hid (moF_range HFT.out)
  have HMI : Hid (∀ t, (oi I (fnI I t)).2 = moF I t) := fun _ => rfl
  obtain ⟨M0, hM0⟩ : ∃ m, m = moF I := ⟨_, rfl⟩
  obtain ⟨P, hP⟩ : ∃ P, P = mkP A L := ⟨_, rfl⟩
  rw [← hM0] at HM0 HMI ⊢
  rw [← hP] at HLEN HIN HTK ⊢
  clear hA hI hL hF hM0 hP
  go_enter Try.func17, Try.ntmps17
  go_wp2_with fail
  generalize w.alloc _ = wo at hbo HX0 HC ⊢
  refine HC.out.mono ?_
  rintro e w1 ⟨rfl, hb1⟩
  have c1 := bt hbo hb1 (Nat.le_refl _)
  have HX1 := Lib.hid (blk_keep HX0.out hb1)
  clear HC HX0 hb1 hbo
  rw [show eV true = 0 from rfl]
  go_wp2_with fail
  go_loopw [6, 7, 8, 9, 10, 11, 12, 13, 14, 15] (fun s i _ _ _ _ _ _ _ _ wr => ∃ (k : Nat) (oa : Option Addr) (oc : Nat), k ≤ L.length ∧ i = .int .i64 k ∧ s = .slice oa k oc ∧ Hid (OwnL wr w.heap.size 3 1 ic (.slice oa k oc) ((gl (P.take k) M0).map Prod.snd)) ∧ Below w.heap.size w wr ∧ Hid (wr.heap[w.heap.size]? = some (.cells #[.slice aA A.length cA, .slice aI I.length cI] 25 (0, 0)))) (fun _ i _ _ _ _ _ _ _ _ _ => L.length - (intOf i).toNat)
  case atStart => exact ⟨0, none, 0, by omega, rfl, rfl, OwnL.nil _ _ _ _ _, c1, HX1⟩
  case round =>
    clear HX1 c1
    obtain ⟨k, oa, oc, hk, rfl, rfl, HO, hbw, HX⟩ := hrel
    rcases Nat.lt_or_ge k L.length with hlt | hge
    · have hki : (k : Int) < L.length := by omega
      have hk0 : (0 : Int) ≤ (k : Int) := by omega
      obtain ⟨lb, lo, rfl, q0, q1⟩ := at_is (HL.out.below hbw) k (by omega)
      change _ = some (Value.string (gi L k).1) at q0
      change _ = some (Value.int .i64 (gi L k).2) at q1
      have HTk := Lib.hid (HTK.out k (by omega))
      obtain ⟨hr, jj, hj, hfj, hgj⟩ := asF_range HFT.out k (by omega)
      have hu := HFT.out.rL k (by omega)
      have HRES := Lib.hid (fun (v : World) (hv : Below wr.heap.size wr v) => rasset_any aA aI cA cI I.length A (gi L k).1 (fnA A (gi L k).1) v hnA (HA.out.below (hbw.trans (hv.mono hbw.size))) (fidx_first _ _ _))
      rw [oa_is, show (fnA A (gi L k).1).isSome = true by rw [hfj]; rfl] at HRES
      clear hfj hj hgj
      have hbs : lb < wr.heap.size := World.block_lt_of_cell? _ _ q0
      have x0 : wr.cell? ⟨w.heap.size, 0, none⟩ = some (.slice aA A.length cA) := cell_of HX.out 0 _ rfl
      have x1 : wr.cell? ⟨w.heap.size, 1, none⟩ = some (.slice aI I.length cI) := cell_of HX.out 1 _ rfl
      have hxl := blk_lt HX.out
      have HNX := Lib.hid (show gl (P.take (k + 1)) M0 = gl (P.take k) M0 ++ [((gi L k).2 * (asF A (gi L k).1).pr, cvl (asF A (gi L k).1) (gi L k).2 (fin (P.take k) M0 (asF A (gi L k).1).iss))] by rw [HTk.out, gl_append])
      have HLK := Lib.hid (show (gl (P.take k) M0).length = k by rw [gl_len, List.length_take, HLEN.out]; omega)
      have HFR := Lib.hid (fun j => fin_range (P := P.take j) (m := M0) (fun y hy => HIN.out y (List.mem_of_mem_take hy)) (fun t => (HM0.out t).1) (asF A (gi L k).1).iss)
      have HM1 := Lib.hid (HM0.out (asF A (gi L k).1).iss)
      have HIS := Lib.hid (fun (v : World) (hv : Below wr.heap.size wr v) => rissuer_any aI aA cI cA A.length I (asF A (gi L k).1).iss (fnI I (asF A (gi L k).1).iss) v hnI (HI.out.below (hbw.trans (hv.mono hbw.size))) (fidx_first _ _ _))
      have HRU := Lib.hid (And.intro hr hu)
      have HMX := Lib.hid (HMI.out (asF A (gi L k).1).iss)
      clear hr hu HTk
      generalize fnI I (asF A (gi L k).1).iss = ri at HIS HMX
      generalize asF A (gi L k).1 = x at *
      generalize gi L k = h at *
      obtain ⟨h1, u⟩ := h
      simp only at *
      go_wp2_with fail
      go_upto_region 7 with fail
      go_cut [8, 9] from 26 to 35 (fun p q wn => ∃ B : Nat, p = .pointer (some ⟨B, 0, none⟩) ∧ q = .bool true ∧ Hid (wn.heap[B]? = some (.cells #[.string x.nm, .string x.iss, .int .i64 x.pr, .int .i64 x.hc, .int .i64 x.mo, .bool x.el] 48 (0, 0)) ∧ Below wr.heap.size wr wn ∧ wr.heap.size ≤ B))
      case first =>
        have n1 : wr.heap.size ≠ w.heap.size := by omega
        have n2 : wr.heap.size ≠ lb := by omega
        go_region_held3 (fun w' => w'.cell? ⟨w.heap.size, 0, none⟩ = some (.slice aA A.length cA) ∧ w'.cell? ⟨w.heap.size, 1, none⟩ = some (.slice aI I.length cI) ∧ w'.cell? ⟨lb, lo + k * 2, none⟩ = some (.string h1))
          (first | (go_split_ands; refine ⟨?_, ?_, ?_⟩ <;> go_keep; done) | (go_split_ands; refine ⟨?_, ?_, ?_⟩ <;> refine keep ?_ hb3 <;> go_keep; done))
          (first
            | (go_at_call 36; refine (HRES.out wr.drew (Below.drew (Below.refl _ _))).mono ?_; rintro e w3 ⟨rfl, hb3⟩; have e0 : wr.heap.size ≤ w3.heap.size := hb3.size; have e1 : w3.heap.size ≠ w.heap.size := (by omega); have e2 : w3.heap.size ≠ lb := (by omega); have y0 : w3.cell? ⟨w.heap.size, 0, none⟩ = some (.slice aA A.length cA) := keep (w := wr.drew) x0 hb3; have y1 : w3.cell? ⟨w.heap.size, 1, none⟩ = some (.slice aI I.length cI) := keep (w := wr.drew) x1 hb3; have y2 : w3.cell? ⟨lb, lo + k * 2, none⟩ = some (.string h1) := keep (w := wr.drew) q0 hb3; have HFN := Lib.hid (lk_new wr w3 hb3 #[.string x.nm, .string x.iss, .int .i64 x.pr, .int .i64 x.hc, .int .i64 x.mo, .bool x.el] 48))
            | (go_at_call 36; refine (HRES.out (wr.drew.alloc (.cells #[.string ⟨#[]⟩, .string ⟨#[]⟩, .int .i64 0, .int .i64 0, .int .i64 0, .bool false] 48)) ((Below.drew (Below.refl _ _)).alloc (Nat.le_refl _) _)).mono ?_; rintro e w3 ⟨rfl, hb3⟩; have zz := blk_keep (blk_new wr.drew (.cells #[.string ⟨#[]⟩, .string ⟨#[]⟩, .int .i64 0, .int .i64 0, .int .i64 0, .bool false] 48)) hb3; have z0 : w3.cell? ⟨wr.heap.size, 0, none⟩ = some (.string ⟨#[]⟩) := cell_of zz 0 _ rfl; have f0 : w3.frozen? ⟨wr.heap.size, 0, none⟩ = false := frozen_of zz 0; have z1 : w3.cell? ⟨wr.heap.size, 1, none⟩ = some (.string ⟨#[]⟩) := cell_of zz 1 _ rfl; have f1 : w3.frozen? ⟨wr.heap.size, 1, none⟩ = false := frozen_of zz 1; have z2 : w3.cell? ⟨wr.heap.size, 2, none⟩ = some (.int .i64 0) := cell_of zz 2 _ rfl; have f2 : w3.frozen? ⟨wr.heap.size, 2, none⟩ = false := frozen_of zz 2; have z3 : w3.cell? ⟨wr.heap.size, 3, none⟩ = some (.int .i64 0) := cell_of zz 3 _ rfl; have f3 : w3.frozen? ⟨wr.heap.size, 3, none⟩ = false := frozen_of zz 3; have z4 : w3.cell? ⟨wr.heap.size, 4, none⟩ = some (.int .i64 0) := cell_of zz 4 _ rfl; have f4 : w3.frozen? ⟨wr.heap.size, 4, none⟩ = false := frozen_of zz 4; have z5 : w3.cell? ⟨wr.heap.size, 5, none⟩ = some (.bool false) := cell_of zz 5 _ rfl; have f5 : w3.frozen? ⟨wr.heap.size, 5, none⟩ = false := frozen_of zz 5; have HFN := Lib.hid (lk_set wr w3 48 hb3 (.string x.nm) (.string x.iss) (.int .i64 x.pr) (.int .i64 x.hc) (.int .i64 x.mo) (.bool x.el))))
        all_goals
          go_wp2
          go_meet
          case rel => exact ⟨_, rfl, rfl, Lib.hid HFN.out⟩
      case rest =>
        obtain ⟨BX, rfl, rfl, HBX⟩ := hcut
        have c4 := Lib.hid (hbw.trans (HBX.out.2.1.mono hbw.size))
        have HX4 := Lib.hid (blk_keep HX.out HBX.out.2.1)
        have HO4 := Lib.hid (HO.out.below HBX.out.2.1)
        have HWC := Lib.hid HBX.out.2.1
        have HB0 := Lib.hid HBX.out.1
        have q4 := keep q1 HBX.out.2.1
        have hBl := HBX.out.2.2
        have hx0 : wc.cell? ⟨w.heap.size, 0, none⟩ = some (.slice aA A.length cA) := cell_of HX4.out 0 _ rfl
        have hx1 : wc.cell? ⟨w.heap.size, 1, none⟩ = some (.slice aI I.length cI) := cell_of HX4.out 1 _ rfl
        have hb1 : wc.cell? ⟨BX, 1, none⟩ = some (.string x.iss) := cell_of HB0.out 1 _ rfl
        clear HRES HX hbw x0 x1 q0 q1 HBX HO
        go_wp2_with fail
        refine (HIS.out _ HWC.out).mono ?_
        rintro e w4 ⟨rfl, hb4⟩
        have c5 := bt c4.out hb4 (Nat.le_refl _)
        have e4 := hb4.size
        have HW5 := Lib.hid (show Below wc.heap.size wc (w4.alloc (.cells #[.string (oi I ri).1, .int .i64 (oi I ri).2] 50)) from hb4.alloc hb4.size _)
        have HY5 := Lib.hid (blk_new w4 (.cells #[.string (oi I ri).1, .int .i64 (oi I ri).2] 50))
        rw [HMX.out] at HW5 HY5 ⊢
        generalize (oi I ri).1 = yn at HW5 HY5 ⊢
        have c6 := Lib.hid (c4.out.trans (HW5.out.mono c4.out.size))
        have hy1 : (w4.alloc (.cells #[.string yn, .int .i64 (M0 x.iss)] 50)).cell? ⟨w4.heap.size, 1, none⟩ = some (.int .i64 (M0 x.iss)) := cell_of HY5.out 1 _ rfl
        have HO6 := Lib.hid (HO4.out.below HW5.out)
        have HX6 := Lib.hid (blk_keep HX4.out HW5.out)
        have HB6 := Lib.hid (blk_keep HB0.out HW5.out)
        have hq6 := keep q4 HW5.out
        clear HIS HMX hb4 c5 hb1 hx0 hx1 HX4 HB0 HO4 q4 hbs
        go_wp2_with fail
        clear hy1 HY5 HW5 hBl HWC c4 e4
        generalize w4.alloc (.cells #[.string yn, .int .i64 (M0 x.iss)] 50) = w6 at c6 HO6 HX6 HB6 hq6 ⊢
        go_loopw [12, 13, 14, 15] (fun l i _ _ wi => ∃ j : Nat, j ≤ k ∧ i = .int .i64 j ∧ l = .int .i64 (fin (P.take j) M0 x.iss) ∧ Hid (Below w6.heap.size w6 wi)) (fun _ i _ _ _ => k - (intOf i).toNat)
        case atStart => exact ⟨0, by omega, rfl, rfl, Below.refl _ _⟩
        case round =>
          obtain ⟨j, hjk, rfl, rfl, hwi⟩ := hrel
          have c7 := Lib.hid (c6.out.trans (hwi.out.mono c6.out.size))
          have HX7 := Lib.hid (blk_keep HX6.out hwi.out)
          have HB7 := Lib.hid (blk_keep HB6.out hwi.out)
          rename World => wi
          rcases Nat.lt_or_ge j k with hltj | hgej
          · have hji : (j : Int) < L.length := by omega
            have hj0 : (0 : Int) ≤ (j : Int) := by omega
            have hjj : (j : Int) < (k : Int) := by omega
            have q0 := (at_is' (HL.out.below c7.out) j (by omega)).1
            change _ = some (Value.string (gi L j).1) at q0
            have HTj := Lib.hid (HTK.out j (by omega))
            obtain ⟨hrj, jz, hz1, hz2, hz3⟩ := asF_range HFT.out j (by omega)
            have HRES := Lib.hid (fun (v : World) (hv : Below wi.heap.size wi v) => rasset_any aA aI cA cI I.length A (gi L j).1 (fnA A (gi L j).1) v hnA (HA.out.below (c7.out.trans (hv.mono c7.out.size))) (fidx_first _ _ _))
            rw [oa_is, show (fnA A (gi L j).1).isSome = true by rw [hz2]; rfl] at HRES
            have HAT := Lib.hid (gl_at P M0 j k hltj (by rw [HLEN.out]; omega) _ HTj.out)
            have HSJ := Lib.hid (show fin (P.take (j + 1)) M0 = step (asF A (gi L j).1) (gi L j).2 (fin (P.take j) M0) by rw [HTj.out, fin_append])
            obtain ⟨hAo, hoc⟩ := HO6.out.sl ic_len
            obtain ⟨ob, oo, rfl, qo⟩ := at_int (hAo.below hwi.out) j (by rw [List.length_map, HLK.out]; exact hltj)
            rw [List.getD_eq_getElem?_getD, HAT.out] at qo
            simp only [Option.getD_some] at qo
            clear hz1 hz2 hz3 hrj HAT hAo HTj hoc
            have hobl := World.block_lt_of_cell? _ _ qo
            generalize asF A (gi L j).1 = z at *
            generalize gi L j = h at *
            obtain ⟨h2, u2⟩ := h
            dsimp only at q0 HRES HSJ qo
            have HF1 := Lib.hid (HFR.out j)
            have HF2 := Lib.hid (HFR.out (j + 1))
            have hbs : lb < wi.heap.size := World.block_lt_of_cell? _ _ q0
            have x0 : wi.cell? ⟨w.heap.size, 0, none⟩ = some (.slice aA A.length cA) := cell_of HX7.out 0 _ rfl
            have x1 : wi.cell? ⟨w.heap.size, 1, none⟩ = some (.slice aI I.length cI) := cell_of HX7.out 1 _ rfl
            have hxw := blk_lt HX7.out
            go_wp2_with fail
            go_upto_region 13 with fail
            go_cut [14, 15] from 50 to 59 (fun p q wn => ∃ B : Nat, p = .pointer (some ⟨B, 0, none⟩) ∧ q = .bool true ∧ Hid (wn.heap[B]? = some (.cells #[.string z.nm, .string z.iss, .int .i64 z.pr, .int .i64 z.hc, .int .i64 z.mo, .bool z.el] 48 (0, 0)) ∧ Below wi.heap.size wi wn ∧ wi.heap.size ≤ B))
            case first =>
              have n1 : wi.heap.size ≠ w.heap.size := by omega
              have n2 : wi.heap.size ≠ lb := by omega
              go_region_held3 (fun w' => w'.cell? ⟨w.heap.size, 0, none⟩ = some (.slice aA A.length cA) ∧ w'.cell? ⟨w.heap.size, 1, none⟩ = some (.slice aI I.length cI) ∧ w'.cell? ⟨lb, lo + j * 2, none⟩ = some (.string h2))
                (first | (go_split_ands; refine ⟨?_, ?_, ?_⟩ <;> go_keep; done) | (go_split_ands; refine ⟨?_, ?_, ?_⟩ <;> refine keep ?_ hb3 <;> go_keep; done))
                (first
                  | (go_at_call 36; refine (HRES.out wi.drew (Below.drew (Below.refl _ _))).mono ?_; rintro e w3 ⟨rfl, hb3⟩; have e0 : wi.heap.size ≤ w3.heap.size := hb3.size; have e1 : w3.heap.size ≠ w.heap.size := (by omega); have e2 : w3.heap.size ≠ lb := (by omega); have y0 : w3.cell? ⟨w.heap.size, 0, none⟩ = some (.slice aA A.length cA) := keep (w := wi.drew) x0 hb3; have y1 : w3.cell? ⟨w.heap.size, 1, none⟩ = some (.slice aI I.length cI) := keep (w := wi.drew) x1 hb3; have y2 : w3.cell? ⟨lb, lo + j * 2, none⟩ = some (.string h2) := keep (w := wi.drew) q0 hb3; have HFN := Lib.hid (lk_new wi w3 hb3 #[.string z.nm, .string z.iss, .int .i64 z.pr, .int .i64 z.hc, .int .i64 z.mo, .bool z.el] 48))
                  | (go_at_call 36; refine (HRES.out (wi.drew.alloc (.cells #[.string ⟨#[]⟩, .string ⟨#[]⟩, .int .i64 0, .int .i64 0, .int .i64 0, .bool false] 48)) ((Below.drew (Below.refl _ _)).alloc (Nat.le_refl _) _)).mono ?_; rintro e w3 ⟨rfl, hb3⟩; have zz := blk_keep (blk_new wi.drew (.cells #[.string ⟨#[]⟩, .string ⟨#[]⟩, .int .i64 0, .int .i64 0, .int .i64 0, .bool false] 48)) hb3; have z0 : w3.cell? ⟨wi.heap.size, 0, none⟩ = some (.string ⟨#[]⟩) := cell_of zz 0 _ rfl; have f0 : w3.frozen? ⟨wi.heap.size, 0, none⟩ = false := frozen_of zz 0; have z1 : w3.cell? ⟨wi.heap.size, 1, none⟩ = some (.string ⟨#[]⟩) := cell_of zz 1 _ rfl; have f1 : w3.frozen? ⟨wi.heap.size, 1, none⟩ = false := frozen_of zz 1; have z2 : w3.cell? ⟨wi.heap.size, 2, none⟩ = some (.int .i64 0) := cell_of zz 2 _ rfl; have f2 : w3.frozen? ⟨wi.heap.size, 2, none⟩ = false := frozen_of zz 2; have z3 : w3.cell? ⟨wi.heap.size, 3, none⟩ = some (.int .i64 0) := cell_of zz 3 _ rfl; have f3 : w3.frozen? ⟨wi.heap.size, 3, none⟩ = false := frozen_of zz 3; have z4 : w3.cell? ⟨wi.heap.size, 4, none⟩ = some (.int .i64 0) := cell_of zz 4 _ rfl; have f4 : w3.frozen? ⟨wi.heap.size, 4, none⟩ = false := frozen_of zz 4; have z5 : w3.cell? ⟨wi.heap.size, 5, none⟩ = some (.bool false) := cell_of zz 5 _ rfl; have f5 : w3.frozen? ⟨wi.heap.size, 5, none⟩ = false := frozen_of zz 5; have HFN := Lib.hid (lk_set wi w3 48 hb3 (.string z.nm) (.string z.iss) (.int .i64 z.pr) (.int .i64 z.hc) (.int .i64 z.mo) (.bool z.el))))
              all_goals
                go_wp2
                go_meet
                case rel => exact ⟨_, rfl, rfl, Lib.hid HFN.out⟩
            case rest =>
              obtain ⟨BY, rfl, rfl, HBY⟩ := hcut
              have c8 := Lib.hid (hwi.out.trans (HBY.out.2.1.mono hwi.out.size))
              have hb1 : wc.cell? ⟨BX, 1, none⟩ = some (.string x.iss) := cell_of (blk_keep HB7.out HBY.out.2.1) 1 _ rfl
              have hy1 : wc.cell? ⟨BY, 1, none⟩ = some (.string z.iss) := cell_of HBY.out.1 1 _ rfl
              have qo2 := keep qo HBY.out.2.1
              clear HRES HX7 HB7 c7 hwi x0 x1 q0 qo HBY hxw hbs hobl
              have hHF1 := HF1.out
              have hHF2 := HF2.out
              have hHM1 := HM1.out
              by_cases he : z.iss = x.iss
              · have heq := eq_yes he
                have HST := Lib.hid (show fin (P.take (j + 1)) M0 x.iss = fin (P.take j) M0 x.iss - cvl z u2 (fin (P.take j) M0 z.iss) by rw [HSJ.out]; unfold step; rw [if_pos he])
                have hst := HST.out
                have HWR := Lib.hid (show IntKind.i64.wrap (fin (P.take j) M0 x.iss - cvl z u2 (fin (P.take j) M0 z.iss)) = fin (P.take j) M0 x.iss - cvl z u2 (fin (P.take j) M0 z.iss) by rw [IntKind.wrap_i64]; omega)
                clear he hst hHF1 hHF2 hHM1
                have hwr := HWR.out
                go_wp2
                go_roundw
                case rel => exact ⟨j + 1, by omega, by go_num, by rw [HST.out], c8⟩
                case measure => simp [intOf]; omega
              · have heq := eq_no he
                have HST := Lib.hid (show fin (P.take (j + 1)) M0 x.iss = fin (P.take j) M0 x.iss by rw [HSJ.out]; unfold step; rw [if_neg he])
                clear he hHF1 hHF2 hHM1
                go_wp2
                go_roundw
                case rel => exact ⟨j + 1, by omega, by go_num, by rw [HST.out], c8⟩
                case measure => simp [intOf]; omega
          · obtain rfl : k = j := by omega
            have HVL := Lib.hid (red_cvl HRU.out.1 (u := u) (HFR.out k).1)
            have HRD := Lib.hid (fun (v : World) => reduced_any x u v HRU.out.1 (by have := HRU.out.2.1; omega) HRU.out.2.2)
            have HOW := Lib.hid (HO6.out.below hwi.out)
            have HLL := Lib.hid (show ((gl (P.take k) M0).map Prod.snd).length = k by rw [List.length_map, HLK.out])
            have HB := Lib.hid (show ∀ wx, Below wi.heap.size wi wx → wx.cell? ⟨BX, 0, none⟩ = some (.string x.nm) ∧ wx.cell? ⟨BX, 1, none⟩ = some (.string x.iss) ∧ wx.cell? ⟨BX, 2, none⟩ = some (.int .i64 x.pr) ∧ wx.cell? ⟨BX, 3, none⟩ = some (.int .i64 x.hc) ∧ wx.cell? ⟨BX, 4, none⟩ = some (.int .i64 x.mo) ∧ wx.cell? ⟨BX, 5, none⟩ = some (.bool x.el) ∧ wx.cell? ⟨lb, lo + k * 2 + 1, none⟩ = some (.int .i64 u) from
              fun wx hx => ⟨cell_of (blk_keep HB7.out hx) 0 _ rfl, cell_of (blk_keep HB7.out hx) 1 _ rfl, cell_of (blk_keep HB7.out hx) 2 _ rfl, cell_of (blk_keep HB7.out hx) 3 _ rfl, cell_of (blk_keep HB7.out hx) 4 _ rfl, cell_of (blk_keep HB7.out hx) 5 _ rfl, keep (keep hq6 hwi.out) hx⟩)
            obtain ⟨b0, b1, b2, b3, b4, b5, q0⟩ := HB.out wi (Below.refl _ _)
            have hbx := blk_lt HB7.out
            have hbl2 := World.block_lt_of_cell? _ _ q0
            have hcw := c7.out.size
            have c9 := c7.out
            clear HB6 hq6 HO6 HX6 hwi
            generalize hlv : fin (P.take k) M0 x.iss = lv at *
            clear hlv
            generalize hls : (gl (P.take k) M0).map Prod.snd = ls at *
            have HLS := Lib.hid hls
            clear hls
            generalize red x u = R at *
            have HV2 := Lib.hid HVL.out.symm
            have HNB := Lib.hid (own_blk HOW.out HB7.out (by decide))
            have HNX7 := Lib.hid (own_blk HOW.out HX7.out (by decide))
            have hxw := blk_lt HX7.out
            have HNL := Lib.hid (show (Value.slice oa k oc).ownBlock ≠ some lb from fun e => by
              have h1 := (HOW.out.lt lb e).1
              have h2 : lb < w.heap.size := World.block_lt_of_cell? _ _ (at_is' HL.out 0 (by omega)).1
              omega)
            have k0 : Below wi.heap.size wi wi := Below.refl _ _
            have kd := k0.drew
            go_wp2_with fail
            go_region_held3 (fun w' => w'.cell? ⟨BX, 0, none⟩ = some (.string x.nm) ∧ w'.cell? ⟨BX, 1, none⟩ = some (.string x.iss) ∧ w'.cell? ⟨BX, 2, none⟩ = some (.int .i64 x.pr) ∧ w'.cell? ⟨BX, 3, none⟩ = some (.int .i64 x.hc) ∧ w'.cell? ⟨BX, 4, none⟩ = some (.int .i64 x.mo) ∧ w'.cell? ⟨BX, 5, none⟩ = some (.bool x.el) ∧ w'.cell? ⟨lb, lo + k * 2 + 1, none⟩ = some (.int .i64 u))
              (first | exact HB.out _ (by assumption) | exact HB.out _ (Below.drew (by assumption)) | exact HB.out _ (k8.alloc k8.size _) | exact HB.out _ (Below.drew (k8.alloc k8.size _)) | exact HB.out _ (k8.drew.alloc k8.size _) | exact s9 | go_keep)
              (first
                | (go_at_call 38; refine (HRD.out _).mono ?_; rintro e w8 ⟨rfl, hb8⟩; have k8 : Below wi.heap.size wi w8 := bt (by first | with_reducible assumption | with_reducible exact Below.drew (by assumption)) hb8 (Nat.le_refl _))
                | (refine step_append_L (P := Try.prog) (α := Int) rfl _ _ _ rfl 3 (.int .i64 0) 1 8 Try.underlying35 info_int rfl (by decide) w.heap.size ic (.slice oa k oc) ls (if lv < (if x.mo < R then x.mo else R) then lv else (if x.mo < R then x.mo else R)) w8.heap.size #[.int .i64 (if lv < (if x.mo < R then x.mo else R) then lv else (if x.mo < R then x.mo else R))] (by rfl) (by rfl) ((HOW.out.below k8).below ((Below.refl _ _).alloc (Nat.le_refl _) _)) (blk_new w8 _) rfl rfl (ic_one _) (by rw [HLL.out]; unfold maxLen; omega) (by rw [HLL.out]; omega) (by have := k8.size; simp; omega) ?_; intro g9 cap w9 ho9 hg9 hat9; have s9 := And.intro (app_cell k8 hg9 b0 HNB.out) (And.intro (app_cell k8 hg9 b1 HNB.out) (And.intro (app_cell k8 hg9 b2 HNB.out) (And.intro (app_cell k8 hg9 b3 HNB.out) (And.intro (app_cell k8 hg9 b4 HNB.out) (And.intro (app_cell k8 hg9 b5 HNB.out) (app_cell k8 hg9 q0 HNL.out)))))); have f9 := Lib.hid (show Below w.heap.size w w9 from ((c9.trans (k8.mono hcw)).alloc (Nat.le_trans hcw k8.size) (.cells #[.int .i64 (if lv < (if x.mo < R then x.mo else R) then lv else (if x.mo < R then x.mo else R))] 3)).grown hg9 (by simp; have := k8.size; omega) (fun j hj => (HOW.out.lt j hj).1)); have x9 := Lib.hid ((app_heap k8 hg9 hxw HNX7.out).trans HX7.out); have HO9 := Lib.hid ho9; clear ho9 hg9 hat9))
            all_goals
              go_wp2
              go_roundw
              case rel =>
                refine ⟨k + 1, some ⟨g9, 0, none⟩, cap, by omega, by go_num, by rw [HLL.out], ?_, f9.out, x9⟩
                unfold Hid
                rw [HNX.out, List.map_append, HLS.out, List.map_cons, List.map_nil, HV2.out, ← HLL.out]
                exact HO9.out
              case measure => simp [intOf]; omega
    · obtain rfl : k = L.length := by omega
      rw [List.take_of_length_le (by rw [HLEN.out]; exact Nat.le_refl _)] at HO
      go_wp2
      go_ret2
      exact ⟨oa, oc, rfl, HO.out, hbw⟩

end Go.Proofs.Ytbfgnkakcnhojaa.Co
