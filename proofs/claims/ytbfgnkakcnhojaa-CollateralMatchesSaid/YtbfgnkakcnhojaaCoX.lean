/-
  The walk of the law CollateralOrder.
-/
import Derived.Test.YtbfgnkakcnhojaaCoS
import Derived.Test.YtbfgnkakcnhojaaCoW
namespace Go.Proofs.Ytbfgnkakcnhojaa.Co
open Go.RowKit Go.Proofs.Ytbfgnkakcnhojaa Go.Proofs.Ytbfgnkakcnhojaa.Ls Go.Proofs.Ytbfgnkakcnhojaa.Kb
open Go.Proofs.Ytbfgnkakcnhojaa.Nm hiding ret_bool ret_int

theorem own_apart {α : Type} {A B : World} {B0 : Nat} {T : TypeId} {k : Nat} {f : α → List Value} {u v : Value} {xs : List α} (h : OwnL A B0 T k f v xs) (hg : A.grownBy B u.ownBlock) (hr : ∀ b, v.ownBlock = some b → u.ownBlock ≠ some b) : OwnL B B0 T k f v xs := by
  refine World.ownsRow.kept h hg ?_
  rcases h.2 with ⟨rfl, _⟩ | ⟨g, cap, cur, rfl, _, hgg, _⟩
  · exact .inl rfl
  · exact .inr fun e => hr g rfl (e.symm.trans rfl)
theorem far_own {A B : World} {v : Value} {b : Nat} {o : Obj} (hg : A.grownBy B v.ownBlock) (h : A.heap[b]? = some o) (hne : v.ownBlock ≠ some b) : B.heap[b]? = some o := (hg.block b (blk_lt h) (fun e => hne e.symm)).trans h
set_option maxRecDepth 100000 in
set_option maxHeartbeats 8000000 in
theorem order_walk {W : World} (aA aI : Option Addr) (cA cI : Nat) (A : List As) (I : List (ByteArray × Int)) (hZA : SzA A) (hZI : SzL I) (hA : AtL W 6 asc aA A) (hI : AtL W 2 isc aI I)
    (aL : Option Addr) (cL : Nat) (L : List (ByteArray × Int)) (hZL : SzL L) (hL : AtL W 2 isc aL L) (t : ByteArray) (_ht : t.size ≤ maxLen) :
    Calls Try.prog 5 #[.agg #[.slice aA A.length cA, .slice aI I.length cI], .slice aL L.length cL, .string t] W fun e W' => e = .returned (.bool true) ∧ Below W.heap.size W W' := by
  have hbo : Below W.heap.size W (W.alloc (.cells #[.slice aA A.length cA, .slice aI I.length cI] 25)) := (Below.refl _ _).alloc (Nat.le_refl _) _
  have HX0 := Lib.hid (blk_new W (.cells #[.slice aA A.length cA, .slice aI I.length cI] 25))
  rcases hb (greatB A.length I.length L.length) with hg | hg
  · have HG := Lib.hid hg
    clear hg
    go_enter Try.func5, Try.ntmps5
    go_wp2_with fail
    generalize W.alloc _ = wo at hbo HX0 ⊢
    refine (alive_any wo).mono ?_
    rintro e w1 ⟨rfl, hb1⟩
    have c1 := bt hbo hb1 (Nat.le_refl _)
    have HX1 := Lib.hid (blk_keep HX0.out hb1)
    have hx0 : w1.cell? ⟨W.heap.size, 0, none⟩ = some (.slice aA A.length cA) := cell_of HX1.out 0 _ rfl
    have hx1 : w1.cell? ⟨W.heap.size, 1, none⟩ = some (.slice aI I.length cI) := cell_of HX1.out 1 _ rfl
    clear HX0 hb1 hbo
    go_wp2_with fail
    refine (great_any aA aI aL A.length I.length L.length cA cI cL w1).mono ?_
    rintro e w2 ⟨rfl, hb2⟩
    have c2 := bt c1 hb2 (Nat.le_refl _)
    have HX2 := Lib.hid (blk_keep HX1.out hb2)
    rw [HG.out]
    clear HX1 hx0 hx1 c1 hb2
    go_wp2
    go_ret
    exact ⟨rfl, c2⟩
  · obtain ⟨hlA, hlI, hlL⟩ := great_no hg
    have HG := Lib.hid hg
    clear hg
    have HA := Lib.hid hA
    have HI := Lib.hid hI
    have HL := Lib.hid hL
    clear hA hI hL
    go_enter Try.func5, Try.ntmps5
    go_wp2_with fail
    generalize W.alloc _ = wo at hbo HX0 ⊢
    refine (alive_any wo).mono ?_
    rintro e w1 ⟨rfl, hb1⟩
    have c1 := bt hbo hb1 (Nat.le_refl _)
    have HX1 := Lib.hid (blk_keep HX0.out hb1)
    have hx0 : w1.cell? ⟨W.heap.size, 0, none⟩ = some (.slice aA A.length cA) := cell_of HX1.out 0 _ rfl
    have hx1 : w1.cell? ⟨W.heap.size, 1, none⟩ = some (.slice aI I.length cI) := cell_of HX1.out 1 _ rfl
    clear HX0 hb1 hbo
    go_wp2_with fail
    refine (great_any aA aI aL A.length I.length L.length cA cI cL w1).mono ?_
    rintro e w2 ⟨rfl, hb2⟩
    have c2 := bt c1 hb2 (Nat.le_refl _)
    have HX2 := Lib.hid (blk_keep HX1.out hb2)
    rw [HG.out]
    clear HX1 hx0 hx1 c1 hb2
    go_wp2_with fail
    clear HG
    go_loopw [8, 9, 10, 11, 12] (fun s1 s2 i _ _ wr => ∃ (k : Nat) (a1 : Option Addr) (n1 k1 : Nat) (a2 : Option Addr) (n2 k2 : Nat), k ≤ L.length ∧ i = .int .i64 k ∧ s1 = .slice a1 n1 k1 ∧ s2 = .slice a2 n2 k2 ∧
      Hid (OwnL wr W.heap.size 56 2 isc (.slice a1 n1 k1) ((L.take k).filter (ofI A t))) ∧ Hid (OwnL wr W.heap.size 56 2 isc (.slice a2 n2 k2) ((L.take k).filter fun x => !ofI A t x)) ∧
      Hid (∀ b, (Value.slice a1 n1 k1).ownBlock = some b → (Value.slice a2 n2 k2).ownBlock ≠ some b) ∧ Hid (Below W.heap.size W wr) ∧ Hid (wr.heap[W.heap.size]? = some (.cells #[.slice aA A.length cA, .slice aI I.length cI] 25 (0, 0)))) (fun _ _ i _ _ _ => L.length - (intOf i).toNat)
    case atStart => exact ⟨0, none, 0, 0, none, 0, 0, by omega, rfl, rfl, rfl, OwnL.nil _ _ _ _ _, OwnL.nil _ _ _ _ _, fun b e => (by cases e), c2, HX2⟩
    case round =>
      clear HX2 c2
      obtain ⟨k, a1, n1, k1, a2, n2, k2, hk, rfl, rfl, rfl, HO1, HO2, HAP, HBW, HX⟩ := hrel
      rcases Nat.lt_or_ge k L.length with hlt | hge
      · have hki : (k : Int) < L.length := by omega
        have hk0 : (0 : Int) ≤ (k : Int) := by omega
        obtain ⟨lb, lo, rfl, q0, q1⟩ := at_is (HL.out.below HBW.out) k hlt
        change _ = some (Value.string (gi L k).1) at q0
        change _ = some (Value.int .i64 (gi L k).2) at q1
        have HRES := Lib.hid (fun (v : World) (hv : Below wr.heap.size wr v) => lfound_any aA aI cA cI I.length A (gi L k).1 (fnA A (gi L k).1) v (by omega) (HA.out.below (HBW.out.trans (hv.mono HBW.out.size))) (fidx_first _ _ _))
        rw [oa_is] at HRES
        have HTK := Lib.hid (show L.take (k + 1) = L.take k ++ [gi L k] by rw [gi_at L k hlt]; exact List.take_succ_eq_append_getElem hlt)
        have HYES := Lib.hid (show (asF A (gi L k).1).iss = t → (L.take (k + 1)).filter (ofI A t) = (L.take k).filter (ofI A t) ++ [gi L k] ∧ ((L.take (k + 1)).filter fun x => !ofI A t x) = (L.take k).filter fun x => !ofI A t x from fun e => by
          have ho : ofI A t (gi L k) = true := decide_eq_true e
          rw [HTK.out, List.filter_append, List.filter_append]
          simp [ho])
        have HNOT := Lib.hid (show (asF A (gi L k).1).iss ≠ t → (L.take (k + 1)).filter (ofI A t) = (L.take k).filter (ofI A t) ∧ ((L.take (k + 1)).filter fun x => !ofI A t x) = ((L.take k).filter fun x => !ofI A t x) ++ [gi L k] from fun e => by
          have ho : ofI A t (gi L k) = false := decide_eq_false e
          rw [HTK.out, List.filter_append, List.filter_append]
          simp [ho])
        have HN1 := Lib.hid (show ((L.take k).filter (ofI A t)).length ≤ 40 from Nat.le_trans (List.length_filter_le _ _) (by rw [List.length_take]; omega))
        have HN2 := Lib.hid (show ((L.take k).filter fun x => !ofI A t x).length ≤ 40 from Nat.le_trans (List.length_filter_le _ _) (by rw [List.length_take]; omega))
        generalize (fnA A (gi L k).1).isSome = sb at *
        generalize asF A (gi L k).1 = x at *
        generalize gi L k = h at *
        generalize (L.take k).filter (ofI A t) = ls1 at *
        generalize ((L.take k).filter fun x => !ofI A t x) = ls2 at *
        obtain ⟨h1, u⟩ := h
        dsimp only at q0 q1 HRES
        have hbs : lb < wr.heap.size := World.block_lt_of_cell? _ _ q0
        have x0 : wr.cell? ⟨W.heap.size, 0, none⟩ = some (.slice aA A.length cA) := cell_of HX.out 0 _ rfl
        have x1 : wr.cell? ⟨W.heap.size, 1, none⟩ = some (.slice aI I.length cI) := cell_of HX.out 1 _ rfl
        have hxl := blk_lt HX.out
        clear HTK
        go_wp2_with fail
        go_upto_region 8 with fail
        go_cut [11, 12] from 34 to 43 (fun p q wn => ∃ B : Nat, p = .pointer (some ⟨B, 0, none⟩) ∧ q = .bool sb ∧ Hid (wn.heap[B]? = some (.cells #[.string x.nm, .string x.iss, .int .i64 x.pr, .int .i64 x.hc, .int .i64 x.mo, .bool x.el] 48 (0, 0)) ∧ Below wr.heap.size wr wn ∧ wr.heap.size ≤ B))
        case first =>
          have n1 : wr.heap.size ≠ W.heap.size := by omega
          have n2 : wr.heap.size ≠ lb := by omega
          go_region_held3 (fun w' => w'.cell? ⟨W.heap.size, 0, none⟩ = some (.slice aA A.length cA) ∧ w'.cell? ⟨W.heap.size, 1, none⟩ = some (.slice aI I.length cI) ∧ w'.cell? ⟨lb, lo + k * 2, none⟩ = some (.string h1))
            (first | (go_split_ands; refine ⟨?_, ?_, ?_⟩ <;> go_keep; done) | (go_split_ands; refine ⟨?_, ?_, ?_⟩ <;> refine keep ?_ hb3 <;> go_keep; done))
            (first
              | (go_at_call 28; refine (HRES.out wr.drew (Below.drew (Below.refl _ _))).mono ?_; rintro e w3 ⟨rfl, hb3⟩; have e0 : wr.heap.size ≤ w3.heap.size := hb3.size; have e1 : w3.heap.size ≠ W.heap.size := (by omega); have e2 : w3.heap.size ≠ lb := (by omega); have y0 : w3.cell? ⟨W.heap.size, 0, none⟩ = some (.slice aA A.length cA) := keep (w := wr.drew) x0 hb3; have y1 : w3.cell? ⟨W.heap.size, 1, none⟩ = some (.slice aI I.length cI) := keep (w := wr.drew) x1 hb3; have y2 : w3.cell? ⟨lb, lo + k * 2, none⟩ = some (.string h1) := keep (w := wr.drew) q0 hb3; have HFN := Lib.hid (lk_new wr w3 hb3 #[.string x.nm, .string x.iss, .int .i64 x.pr, .int .i64 x.hc, .int .i64 x.mo, .bool x.el] 48))
              | (go_at_call 28; refine (HRES.out (wr.drew.alloc (.cells #[.string ⟨#[]⟩, .string ⟨#[]⟩, .int .i64 0, .int .i64 0, .int .i64 0, .bool false] 48)) ((Below.drew (Below.refl _ _)).alloc (Nat.le_refl _) _)).mono ?_; rintro e w3 ⟨rfl, hb3⟩; have zz := blk_keep (blk_new wr.drew (.cells #[.string ⟨#[]⟩, .string ⟨#[]⟩, .int .i64 0, .int .i64 0, .int .i64 0, .bool false] 48)) hb3; have z0 : w3.cell? ⟨wr.heap.size, 0, none⟩ = some (.string ⟨#[]⟩) := cell_of zz 0 _ rfl; have f0 : w3.frozen? ⟨wr.heap.size, 0, none⟩ = false := frozen_of zz 0; have z1 : w3.cell? ⟨wr.heap.size, 1, none⟩ = some (.string ⟨#[]⟩) := cell_of zz 1 _ rfl; have f1 : w3.frozen? ⟨wr.heap.size, 1, none⟩ = false := frozen_of zz 1; have z2 : w3.cell? ⟨wr.heap.size, 2, none⟩ = some (.int .i64 0) := cell_of zz 2 _ rfl; have f2 : w3.frozen? ⟨wr.heap.size, 2, none⟩ = false := frozen_of zz 2; have z3 : w3.cell? ⟨wr.heap.size, 3, none⟩ = some (.int .i64 0) := cell_of zz 3 _ rfl; have f3 : w3.frozen? ⟨wr.heap.size, 3, none⟩ = false := frozen_of zz 3; have z4 : w3.cell? ⟨wr.heap.size, 4, none⟩ = some (.int .i64 0) := cell_of zz 4 _ rfl; have f4 : w3.frozen? ⟨wr.heap.size, 4, none⟩ = false := frozen_of zz 4; have z5 : w3.cell? ⟨wr.heap.size, 5, none⟩ = some (.bool false) := cell_of zz 5 _ rfl; have f5 : w3.frozen? ⟨wr.heap.size, 5, none⟩ = false := frozen_of zz 5; have HFN := Lib.hid (lk_set wr w3 48 hb3 (.string x.nm) (.string x.iss) (.int .i64 x.pr) (.int .i64 x.hc) (.int .i64 x.mo) (.bool x.el))))
          all_goals
            go_wp2
            go_meet
            case rel => exact ⟨_, rfl, rfl, Lib.hid HFN.out⟩
        case rest =>
          obtain ⟨BX, rfl, rfl, HBX⟩ := hcut
          have c4 := HBW.out.trans (HBX.out.2.1.mono HBW.out.size)
          have hszc := c4.size
          have HXC := Lib.hid (blk_keep HX.out HBX.out.2.1)
          have HC1 := Lib.hid (HO1.out.below HBX.out.2.1)
          have HC2 := Lib.hid (HO2.out.below HBX.out.2.1)
          have HNO1 := Lib.hid (own_blk HC1.out HXC.out (by decide))
          have HNO2 := Lib.hid (own_blk HC2.out HXC.out (by decide))
          have q0c := keep q0 HBX.out.2.1
          have q1c := keep q1 HBX.out.2.1
          have b1 : wc.cell? ⟨BX, 1, none⟩ = some (.string x.iss) := cell_of HBX.out.1 1 _ rfl
          clear HRES HX HO1 HO2 x0 x1 q0 q1 HBX hxl hbs HBW
          by_cases he : x.iss = t
          · have heq := eq_yes he
            have HNX1 := Lib.hid (HYES.out he).1
            have HNX2 := Lib.hid (HYES.out he).2
            clear he HYES HNOT
            go_wp2_with (at_builtin; refine wpList_append_L (P := Try.prog) (α := ByteArray × Int) rfl _ _ _ rfl 56 (Value.agg #[.string ⟨#[]⟩, .int .i64 0]) 2 24 Try.underlying26 info_hol rfl (by decide) W.heap.size isc (.slice a1 n1 k1) ls1 (h1, u) wc.heap.size #[.string h1, .int .i64 u] rfl rfl (HC1.out.below ((Below.refl _ _).alloc (Nat.le_refl _) _)) (blk_new wc _) rfl (isc_len _) (isc_one _) (by have := HN1.out; unfold maxLen; omega) (by have := HN1.out; omega) (by have := hszc; simp; omega) ?_; intro g9 cap w9 ho9 hg9 hat9)
            have k9 : Below W.heap.size W w9 := (c4.alloc c4.size _).grown hg9 (by have := c4.size; simp; omega) (fun j hj => (HC1.out.lt j hj).1)
            have HO29 := Lib.hid (own_apart (HC2.out.below ((Below.refl _ _).alloc (Nat.le_refl _) _)) hg9 (fun b e1 e2 => HAP.out b e2 e1))
            have HX9 := Lib.hid (far_own hg9 (blk_past _ _ HXC.out) (HNO1.out))
            have HO19 := Lib.hid ho9
            have HAP9 := Lib.hid (show ∀ b, (Value.slice (some ⟨g9, 0, none⟩) (ls1.length + 1) cap).ownBlock = some b → (Value.slice a2 n2 k2).ownBlock ≠ some b from fun b e1 e2 => by
              have hlt := (HC2.out.lt b e2).2
              have hgb : g9 = b := by simpa [Value.ownBlock] using e1
              rcases hat9 with h | h
              · rw [hgb] at h
                exact HAP.out b h e2
              · simp at h
                omega)
            clear ho9 hg9 hat9
            go_wp2
            go_roundw
            case rel => exact ⟨k + 1, some ⟨g9, 0, none⟩, ls1.length + 1, cap, a2, n2, k2, by omega, by go_num, rfl, rfl, by rw [HNX1.out]; exact HO19, by rw [HNX2.out]; exact HO29, HAP9, Lib.hid k9, HX9⟩
            case measure => simp [intOf]; omega
          · have heq := eq_no he
            have HNX1 := Lib.hid (HNOT.out he).1
            have HNX2 := Lib.hid (HNOT.out he).2
            clear he HYES HNOT
            go_wp2_with (at_builtin; refine wpList_append_L (P := Try.prog) (α := ByteArray × Int) rfl _ _ _ rfl 56 (Value.agg #[.string ⟨#[]⟩, .int .i64 0]) 2 24 Try.underlying26 info_hol rfl (by decide) W.heap.size isc (.slice a2 n2 k2) ls2 (h1, u) wc.heap.size #[.string h1, .int .i64 u] rfl rfl (HC2.out.below ((Below.refl _ _).alloc (Nat.le_refl _) _)) (blk_new wc _) rfl (isc_len _) (isc_one _) (by have := HN2.out; unfold maxLen; omega) (by have := HN2.out; omega) (by have := hszc; simp; omega) ?_; intro g9 cap w9 ho9 hg9 hat9)
            have k9 : Below W.heap.size W w9 := (c4.alloc c4.size _).grown hg9 (by have := c4.size; simp; omega) (fun j hj => (HC2.out.lt j hj).1)
            have HO19 := Lib.hid (own_apart (HC1.out.below ((Below.refl _ _).alloc (Nat.le_refl _) _)) hg9 (fun b e1 e2 => HAP.out b e1 e2))
            have HX9 := Lib.hid (far_own hg9 (blk_past _ _ HXC.out) (HNO2.out))
            have HO29 := Lib.hid ho9
            have HAP9 := Lib.hid (show ∀ b, (Value.slice a1 n1 k1).ownBlock = some b → (Value.slice (some ⟨g9, 0, none⟩) (ls2.length + 1) cap).ownBlock ≠ some b from fun b e1 e2 => by
              have hlt := (HC1.out.lt b e1).2
              have hgb : g9 = b := by simpa [Value.ownBlock] using e2
              rcases hat9 with h | h
              · rw [hgb] at h
                exact HAP.out b e1 h
              · simp at h
                omega)
            clear ho9 hg9 hat9
            go_wp2
            go_roundw
            case rel => exact ⟨k + 1, a1, n1, k1, some ⟨g9, 0, none⟩, ls2.length + 1, cap, by omega, by go_num, rfl, rfl, by rw [HNX1.out]; exact HO19, by rw [HNX2.out]; exact HO29, HAP9, Lib.hid k9, HX9⟩
            case measure => simp [intOf]; omega
      · obtain rfl : k = L.length := by omega
        rw [List.take_length] at HO1 HO2
        obtain ⟨B1, e1, _⟩ := HO1.out.sl isc_len
        obtain ⟨B2, e2, _⟩ := HO2.out.sl isc_len
        subst e1
        subst e2
        have A1 := Lib.hid B1
        have A2 := Lib.hid B2
        have HZ1 := Lib.hid (sub_sz hZL (List.filter_sublist (p := ofI A t) (l := L)))
        have HZ2 := Lib.hid (sub_sz hZL (List.filter_sublist (p := fun x => !ofI A t x) (l := L)))
        have HN1 := Lib.hid (List.length_filter_le (ofI A t) L)
        have HN2 := Lib.hid (List.length_filter_le (fun x => !ofI A t x) L)
        have HCS : Hid ((eV (fitB A I L) = 8 ∧ vF A I L = 0) ∨ (eV (fitB A I L) = 0 ∧ eV (fitB A I (L.filter (ofI A t))) = 0 ∧ eV (fitB A I (L.filter fun x => !ofI A t x)) = 0 ∧ vF A I L = vF A I (L.filter (ofI A t)) + vF A I (L.filter fun x => !ofI A t x) ∧ vF A I L ≤ 1125899906842624 ∧ 0 ≤ vF A I L)) := by
          unfold Hid
          rcases hb (fitB A I L) with h | h
          · obtain ⟨a, b, c⟩ := order_facts t h
            refine .inr ⟨by rw [h]; rfl, by rw [b]; rfl, by rw [c]; rfl, a, (vF_range A I L).2, (vF_range A I L).1⟩
          · refine .inl ⟨by rw [h]; rfl, ?_⟩
            unfold vF
            rw [h]
            rfl
        have HV0 := Lib.hid (fun (v : World) (hv : Below W.heap.size W v) => value_q aA aI aL cA cI cL A I L v (by omega) (by omega) (by omega) hZA hZI hZL (HA.out.below hv) (HI.out.below hv) (HL.out.below hv))
        have HV1 := Lib.hid (fun (v : World) (hv : Below W.heap.size W v) (hl : AtL v 2 isc a1 (L.filter (ofI A t))) => value_q aA aI a1 cA cI k1 A I (L.filter (ofI A t)) v (by omega) (by omega) (by have := HN1.out; omega) hZA hZI HZ1.out (HA.out.below hv) (HI.out.below hv) hl)
        have HV2 := Lib.hid (fun (v : World) (hv : Below W.heap.size W v) (hl : AtL v 2 isc a2 (L.filter fun x => !ofI A t x)) => value_q aA aI a2 cA cI k2 A I (L.filter fun x => !ofI A t x) v (by omega) (by omega) (by have := HN2.out; omega) hZA hZI HZ2.out (HA.out.below hv) (HI.out.below hv) hl)
        clear HZ1 HZ2 HN1 HN2 B1 B2 HO1 HO2 HAP hZA hZI hZL HA HI HL
        generalize vF A I (L.filter (ofI A t)) = V1 at *
        generalize eV (fitB A I (L.filter (ofI A t))) = E1 at *
        generalize vF A I (L.filter fun x => !ofI A t x) = V2 at *
        generalize eV (fitB A I (L.filter fun x => !ofI A t x)) = E2 at *
        generalize L.filter (ofI A t) = ls1 at *
        generalize (L.filter fun x => !ofI A t x) = ls2 at *
        generalize vF A I L = V0 at *
        generalize eV (fitB A I L) = E0 at *
        have c5 := HBW.out
        have HX5 := HX
        clear HBW HX
        rename World => w5
        have y0 : w5.cell? ⟨W.heap.size, 0, none⟩ = some (.slice aA A.length cA) := cell_of HX5.out 0 _ rfl
        have y1 : w5.cell? ⟨W.heap.size, 1, none⟩ = some (.slice aI I.length cI) := cell_of HX5.out 1 _ rfl
        go_wp2_with fail
        refine (HV0.out w5 c5).mono ?_
        rintro e w6 ⟨rfl, hbX⟩
        have c6 := bt c5 hbX (Nat.le_refl _)
        have HX6 := Lib.hid (blk_keep HX5.out hbX)
        have A3 := Lib.hid (A1.out.below hbX)
        have A4 := Lib.hid (A2.out.below hbX)
        clear A1 A2 HV0
        clear hbX HX5 y0 y1
        have y0 : w6.cell? ⟨W.heap.size, 0, none⟩ = some (.slice aA A.length cA) := cell_of HX6.out 0 _ rfl
        have y1 : w6.cell? ⟨W.heap.size, 1, none⟩ = some (.slice aI I.length cI) := cell_of HX6.out 1 _ rfl
        go_wp2_with fail
        refine (HV1.out w6 c6 A3.out).mono ?_
        rintro e w7 ⟨rfl, hbX⟩
        have c7 := bt c6 hbX (Nat.le_refl _)
        have HX7 := Lib.hid (blk_keep HX6.out hbX)
        have A5 := Lib.hid (A4.out.below hbX)
        clear A3 A4 HV1
        clear hbX HX6 y0 y1
        have y0 : w7.cell? ⟨W.heap.size, 0, none⟩ = some (.slice aA A.length cA) := cell_of HX7.out 0 _ rfl
        have y1 : w7.cell? ⟨W.heap.size, 1, none⟩ = some (.slice aI I.length cI) := cell_of HX7.out 1 _ rfl
        go_wp2_with fail
        refine (HV2.out w7 c7 A5.out).mono ?_
        rintro e w8 ⟨rfl, hbX⟩
        have c8 := bt c7 hbX (Nat.le_refl _)
        have HX8 := Lib.hid (blk_keep HX7.out hbX)
        clear A5 HV2
        clear hbX HX7 y0 y1
        rcases HCS.out with ⟨rfl, rfl⟩ | ⟨rfl, rfl, rfl, h1, h2, h3⟩
        · clear HCS
          go_wp2
          go_ret
          exact ⟨rfl, c8⟩
        · clear HCS
          have q1 : IntKind.i64.wrap (V1 + V2) = V1 + V2 := by rw [IntKind.wrap_i64]; omega
          have q2 : (V0 == V1 + V2) = true := by rw [beq_iff_eq]; exact h1
          clear h1 h2 h3
          go_wp2
          go_ret
          exact ⟨rfl, c8⟩
end Go.Proofs.Ytbfgnkakcnhojaa.Co

