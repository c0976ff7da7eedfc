/-
  Margin's reference: the walk of Join.
-/
import Derived.Test.YtmljjofpbonplaaMg26
import Derived.Test.YtmljjofpbonplaaMg11
import Derived.Test.YtmljjofpbonplaaLs2
namespace Go.Proofs.Ytmljjofpbonplaa.Mg
open Go.RowKit Go.Proofs.Ytmljjofpbonplaa Go.Proofs.Ytmljjofpbonplaa.Nm Go.Proofs.Ytmljjofpbonplaa.Ls

theorem refPortfolio_L (a : Option Addr) (c : Nat) (xs : PL) (w : World) (hp : PLok xs) (hA : AtL w 2 pc a xs) (b : Bool) (hb : okL xs = b) :
    Calls Try.prog 50 #[.slice a xs.length c] w fun e w' => e = .returned (.bool b) ∧ Below w.heap.size w w' := by
  subst hb
  have hL := pfl_at (c := c) hp hA
  exact refPortfolio_any a xs.length c (pfl none 0 xs).T (pfl none 0 xs).Q w (by have := hp.n; unfold maxLen at this; omega) hL.t hL.at'
theorem pc_one (z : ByteArray × Int) : ∀ u ∈ pc z, u.oneCell' = true := by intro u hu; simp [pc] at hu; rcases hu with rfl | rfl <;> rfl
theorem srt_take {xs : PL} (h : Srt xs) (k : Nat) : Srt (xs.take k) := by
  induction k generalizing xs with
  | zero => trivial
  | succ k ih =>
    cases xs with
    | nil => trivial
    | cons x xs => exact ⟨fun y hy => h.1 y (List.mem_of_mem_take hy), ih h.2⟩
theorem mg_step {xs ys : PL} (hx : Srt xs) (hy : Srt ys) (k : Nat) (hk : k < ys.length) : addF false ys[k] (mg xs (ys.take k)) = mg xs (ys.take (k + 1)) := by
  rw [← mg_fold hx (srt_take hy k), ← mg_fold hx (srt_take hy (k + 1)), fold_snoc xs ys k hk]

set_option maxRecDepth 100000 in
set_option maxHeartbeats 8000000 in
theorem refJoin_any (a b : Option Addr) (c d : Nat) (xs ys : PL) (w : World) (hx : PLok xs) (hy : PLok ys) (hA : AtL w 2 pc a xs) (hB : AtL w 2 pc b ys) :
    Calls Try.prog 32 #[.slice a xs.length c, .slice b ys.length d] w (JoinPost xs ys w) := by
  have HP1 := Lib.hid (fun wo v h => refPortfolio_L a c xs wo hx (hA.below h) v)
  have HP2 := Lib.hid (fun wo v h => refPortfolio_L b d ys wo hy (hB.below h) v)
  rcases hb (okL xs) with h1 | h1
  · rcases hb (okL ys) with h2 | h2
    · have HK1 := Lib.hid h1
      have HK2 := Lib.hid h2
      have HG1 := Lib.hid ((okL_iff xs).1 h1)
      have HG2 := Lib.hid ((okL_iff ys).1 h2)
      have HAX := Lib.hid hA
      have HAY := Lib.hid hB
      have hn1 := ((okL_iff xs).1 h1).n
      have hn2 := ((okL_iff ys).1 h2).n
      have HE := Lib.hid (show joinE xs ys = if ((mg xs ys).all fun z => inQ z.2) = true then if (jn xs ys).length ≤ 32 then 0 else 4 else 52 by unfold joinE; rw [h1, h2]; rfl)
      have HBD := Lib.hid (fun k => mg_bd (xs := xs) (ys := ys.take k) (B := 1048576) (by omega) (fun x hx => of_decide_eq_true (((okL_iff xs).1 h1).each x hx).2.2) (fun y hy => of_decide_eq_true (((okL_iff ys).1 h2).each y (List.mem_of_mem_take hy)).2.2))
      clear h1 h2 hA hB hx hy
      go_enter Try.func32, Try.ntmps32
      go_wp2_with fail
      refine (HP1.out w true (Below.refl _ _) HK1.out).mono ?_
      rintro e w1 ⟨rfl, hb1⟩
      go_wp2_with fail
      refine (HP2.out w1 true hb1 HK2.out).mono ?_
      rintro e w2 ⟨rfl, hb2⟩
      have c2 := bt hb1 hb2 (Nat.le_refl _)
      clear hb1 hb2
      go_wp2_with (at_builtin; refine wpList_append_LL (w2.alloc (.cells #[] 51)) (P := Try.prog) (α := ByteArray × Int) rfl _ _ _ rfl 51 (.agg #[.string ⟨#[]⟩, .int .i64 0]) 2 24 Try.underlying26 (by kernel_rfl) rfl (by decide) w.heap.size pc pc_len pc_one (.slice (some ⟨w2.heap.size, 0, none⟩) 0 0) [] xs a c rfl rfl (OwnL.empty (blk_new w2 _) c2.size) ((HAX.out.below c2).below ((Below.refl _ _).alloc (Nat.le_refl _) _)) (by simp; unfold maxLen; omega) (by simp; omega) (by have := c2.size; simp; omega) ?_; intro a3 c3' w3 ho3 hg3)
      have c3 := (c2.alloc c2.size (.cells #[] 51)).grown hg3 (by have := c2.size; simp; omega) (fun k hk => by simp [Value.ownBlock] at hk; have := c2.size; omega)
      have hr4 := (ho3.sl pc_len).1
      have HR3 := Lib.hid (show AtL w3 2 pc a3 (mg xs (ys.take 0)) by rw [List.take_zero, mg_nil]; exact hr4)
      clear ho3 hg3 hr4 c2
      go_wp2_with fail
      go_loopw [6, 7] (fun o i wr => ∃ (k : Nat) (a' : Option Addr) (c' : Nat), k ≤ ys.length ∧ i = .int .i64 k ∧ o = .slice a' (mg xs (ys.take k)).length c' ∧ Hid (AtL wr 2 pc a' (mg xs (ys.take k))) ∧ Below w.heap.size w wr) (fun _ i _ => ys.length - (intOf i).toNat)
      case atStart => exact ⟨0, a3, c3', by omega, rfl, by rw [List.take_zero, mg_nil], HR3, c3⟩
      case round =>
        clear c3 HR3
        obtain ⟨k, a', c', hk, rfl, rfl, HR, hbw⟩ := hrel
        have hlen : (mg xs (ys.take k)).length ≤ 64 := by
          have h1 := mg_len xs (ys.take k)
          have h2 := List.length_take_le k ys
          have h3 : (ys.take k).length ≤ ys.length := by rw [List.length_take]; omega
          omega
        by_cases hlt : k < ys.length
        · obtain ⟨b_, oy, rfl, hcy⟩ := (HAY.out.below hbw) k _ (getElem?_lt hlt)
          have q0 : wr.cell? ⟨b_, oy + k * 2, none⟩ = some (.string ys[k].1) := hcy 0 _ rfl
          have q1 : wr.cell? ⟨b_, oy + k * 2 + 1, none⟩ = some (.int .i64 ys[k].2) := hcy 1 _ rfl
          clear hcy
          have hqy := of_decide_eq_true (HG2.out.each _ (List.getElem_mem hlt)).2.2
          have HST := Lib.hid (mg_step HG1.out.srt HG2.out.srt k hlt)
          have HBK := Lib.hid (HBD.out k)
          have HAD := Lib.hid (fun wo (h : Below wr.heap.size wr wo) => refAdd_any a' c' ys[k] (mg xs (ys.take k)) wo (by omega) (HR.out.below h) (fun x hx => by have := HBK.out x hx; omega) (by omega))
          have k0 : (0 : Int) ≤ k := by omega
          have k1 : (k : Int) < ys.length := by omega
          clear hqy
          generalize ys[k] = y at *
          go_wp2_with fail
          refine (HAD.out _ (Below.refl _ _)).mono ?_
          intro e w4 h4
          obtain ⟨v4, rfl, ho4, hb4⟩ := h4
          obtain ⟨a4, c4', rfl, hr4, _, _⟩ := ho4.read pc_len
          have c4 := bt hbw hb4 (Nat.le_refl _)
          rw [HST.out] at hr4 ⊢
          have HR4 := Lib.hid hr4
          clear hr4 ho4 hb4 HR HAD HBK
          go_wp2
          go_roundw
          case rel => exact ⟨k + 1, a4, c4', by omega, by go_num, rfl, HR4, c4⟩
          case measure => simp [intOf]; omega
        · obtain rfl : k = ys.length := by omega
          have HTL := Lib.hid (show ys.take ys.length = ys from List.take_length)
          rw [HTL.out] at HR hlen ⊢
          have HBK := Lib.hid (show ∀ z ∈ mg xs ys, -2097152 ≤ z.2 ∧ z.2 ≤ 2097152 from fun z hz => by have := HBD.out ys.length; rw [HTL.out] at this; exact this z hz)
          generalize hMG : mg xs ys = M at *
          have HMG := Lib.hid hMG
          clear hMG
          go_wp2_with fail
          obtain ⟨wl, rfl⟩ : ∃ wl : World, wl = wr := ⟨_, rfl⟩
          go_loopw [8, 9] (fun o i wr => ∃ k : Nat, k ≤ M.length ∧ i = .int .i64 k ∧ Hid (∀ z ∈ M.take k, inQ z.2 = true) ∧ Hid (OwnL wr wl.heap.size 51 2 pc o ((M.take k).filter fun z => z.2 != 0)) ∧ Below wl.heap.size wl wr) (fun _ i _ => M.length - (intOf i).toNat)
          case atStart => exact ⟨0, by omega, rfl, Lib.hid (fun z hz => by simp at hz), OwnL.nil _ _ _ _ _, Below.refl _ _⟩
          case round =>
            obtain ⟨k, hk, rfl, HD, HO, hb2⟩ := hrel
            have hbf := bt hbw hb2 (Nat.le_refl _)
            have HLEN : Hid (((M.take k).filter fun z => z.2 != 0).length ≤ 64) := by
              have h1 := List.length_filter_le (fun z : ByteArray × Int => z.2 != 0) (M.take k)
              have h2 : (M.take k).length ≤ M.length := by rw [List.length_take]; omega
              exact (show _ ≤ _ by omega)
            by_cases hlt : k < M.length
            · obtain ⟨bz, oz, rfl, hcz⟩ := (HR.out.below hb2) k _ (getElem?_lt hlt)
              have q0 : wr.cell? ⟨bz, oz + k * 2, none⟩ = some (.string M[k].1) := hcz 0 _ rfl
              have q1 : wr.cell? ⟨bz, oz + k * 2 + 1, none⟩ = some (.int .i64 M[k].2) := hcz 1 _ rfl
              have hbz : bz < wr.heap.size := World.block_lt_of_cell? _ _ q0
              clear hcz
              have hbd := HBK.out _ (List.getElem_mem hlt)
              have HTK := Lib.hid (show M.take (k + 1) = M.take k ++ [M[k]] from List.take_succ_eq_append_getElem hlt)
              have HMEM := Lib.hid (show M[k] ∈ M from List.getElem_mem hlt)
              have k0 : (0 : Int) ≤ k := by omega
              have k1 : (k : Int) < M.length := by omega
              generalize M[k] = z at *
              rcases hb (inQ z.2) with hq | hq
              · have hqb := of_decide_eq_true hq
                have HD2 : Hid (∀ u ∈ M.take (k + 1), inQ u.2 = true) := fun u hu => by
                  rw [HTK.out] at hu
                  rcases List.mem_append.1 hu with hu | hu
                  · exact HD.out u hu
                  · rw [List.mem_singleton.1 hu]; exact hq
                have hmx : ¬ (1048576 : Int) < max z.2 (-z.2) := by omega
                clear hq
                go_wp2_with fail
                refine (refAbs_any z.2 _ (by omega)).mono ?_
                rintro e w5 ⟨rfl, rfl⟩
                generalize max z.2 (-z.2) = mx at *
                rcases hb (z.2 != 0) with tq | tq
                · have HNZ := Lib.hid tq
                  go_wp2_with (at_builtin; refine wpList_append_L (P := Try.prog) (α := ByteArray × Int) rfl _ _ _ rfl 51 (.agg #[.string ⟨#[]⟩, .int .i64 0]) 2 24 Try.underlying26 (by kernel_rfl) rfl (by decide) wl.heap.size pc u8 ((M.take k).filter fun z => z.2 != 0) z w5.heap.size #[.string z.1, .int .i64 z.2] rfl rfl (HO.out.below ((Below.refl _ _).alloc (Nat.le_refl _) _)) (blk_new w5 _) rfl rfl (by simp [pc, Value.oneCell']) (by have := HLEN.out; unfold maxLen; omega) (by have := HLEN.out; omega) (by have := hb2.size; simp; omega) ?_; intro g1 cap w9 hown9 hgrow9 hat9)
                  have HC9 := Lib.hid ((hb2.alloc hb2.size _).grown hgrow9 (by have := hb2.size; simp; omega) (fun k hk => (HO.out.lt k hk).1))
                  have HO9 : Hid (OwnL w9 wl.heap.size 51 2 pc (.slice (some ⟨g1, 0, none⟩) (((M.take k).filter fun z => z.2 != 0).length + 1) cap) ((M.take (k + 1)).filter fun z => z.2 != 0)) := by
                    unfold Hid
                    rw [HTK.out, filter_nz _ z HNZ.out]
                    exact hown9
                  clear hown9 hgrow9 hat9 HO
                  go_wp2
                  go_roundw
                  case rel => exact ⟨k + 1, by omega, by go_num, HD2, HO9, HC9.out⟩
                  case measure => simp [intOf]; omega
                · have HO9 : Hid (OwnL w5 wl.heap.size 51 2 pc u8 ((M.take (k + 1)).filter fun z => z.2 != 0)) := by
                    unfold Hid
                    rw [HTK.out, filter_z _ z tq]
                    exact HO.out
                  clear HO
                  go_wp2
                  go_roundw
                  case rel => exact ⟨k + 1, by omega, by go_num, HD2, HO9, hb2⟩
                  case measure => simp [intOf]; omega
              · have hnq : ¬ (-1048576 ≤ z.2 ∧ z.2 ≤ 1048576) := of_decide_eq_false hq
                have hmx : (1048576 : Int) < max z.2 (-z.2) := by omega
                have HE2 : Hid (joinE xs ys = 52) := by
                  have hall : ((mg xs ys).all fun z => inQ z.2) = false := by
                    rw [List.all_eq_false]
                    exact ⟨z, by rw [HMG.out]; exact HMEM.out, by rw [hq]; simp⟩
                  unfold Hid
                  rw [HE.out, HMG.out] at *
                  rw [HMG.out] at hall
                  rw [hall]
                  rfl
                clear hq hnq
                go_wp2_with fail
                refine (refAbs_any z.2 _ (by omega)).mono ?_
                rintro e w5 ⟨rfl, rfl⟩
                generalize max z.2 (-z.2) = mx at *
                go_wp2
                go_ret2
                exact ⟨_, by rw [HE2.out]; rfl, by unfold joinL; rw [HE2.out]; exact OwnL.nil _ _ _ _ _, hbf⟩
            · obtain rfl : k = M.length := by omega
              have HM2 : Hid (M.take M.length = M) := List.take_length
              rw [HM2.out] at HO HD HLEN
              obtain ⟨ao, co, rfl, _, hco, _⟩ := HO.out.read pc_len
              have HJ : Hid (joinE xs ys = if (M.filter fun z => z.2 != 0).length ≤ 32 then 0 else 4) := by
                unfold Hid
                have hall : ((mg xs ys).all fun z => inQ z.2) = true := by rw [HMG.out]; exact List.all_eq_true.2 (fun z hz => HD.out z hz)
                have hj : jn xs ys = M.filter fun z => z.2 != 0 := by unfold jn; rw [HMG.out]
                have := HE.out
                rw [hj] at this
                rw [this]
                first
                  | rw [hall, if_pos rfl]
                  | rw [← HMG.out, hall, if_pos rfl]
              have HJL : Hid (jn xs ys = M.filter fun z => z.2 != 0) := by unfold Hid jn; rw [HMG.out]
              clear hco
              have hlen2 := HLEN.out
              by_cases h32 : (M.filter fun z => z.2 != 0).length ≤ 32
              · have HE2 : Hid (joinE xs ys = 0) := by unfold Hid; rw [HJ.out, if_pos h32]
                generalize hfl : (M.filter fun z => z.2 != 0).length = FL at *
                have HFL := Lib.hid hfl
                clear hfl
                go_wp2
                go_ret2
                exact ⟨_, by rw [HE2.out]; rfl, by unfold joinL; rw [HE2.out, if_pos rfl, HJL.out]; have := OwnL.lower HO.out hbw.size; rw [← HFL.out] at this ⊢; exact this, hbf⟩
              · have HE2 : Hid (joinE xs ys = 4) := by unfold Hid; rw [HJ.out, if_neg h32]
                generalize hfl : (M.filter fun z => z.2 != 0).length = FL at *
                clear hfl
                go_wp2
                go_ret2
                exact ⟨_, by rw [HE2.out]; rfl, by unfold joinL; rw [HE2.out]; exact OwnL.nil _ _ _ _ _, hbf⟩
    · have HK1 := Lib.hid h1
      have HK2 := Lib.hid h2
      have HE2 := Lib.hid (show joinE xs ys = 8 by unfold joinE; rw [h1, h2]; rfl)
      clear h1 h2 hA hB hx hy
      go_enter Try.func32, Try.ntmps32
      go_wp2_with fail
      refine (HP1.out w true (Below.refl _ _) HK1.out).mono ?_
      rintro e w1 ⟨rfl, hb1⟩
      go_wp2_with fail
      refine (HP2.out w1 false hb1 HK2.out).mono ?_
      rintro e w2 ⟨rfl, hb2⟩
      have c2 := bt hb1 hb2 (Nat.le_refl _)
      clear hb1 hb2
      go_wp2
      go_ret2
      exact ⟨_, by rw [HE2.out]; rfl, by unfold joinL; rw [HE2.out]; exact OwnL.nil _ _ _ _ _, c2⟩
  · have HK1 := Lib.hid h1
    have HE2 := Lib.hid (show joinE xs ys = 8 by unfold joinE; rw [h1]; rfl)
    clear h1 hA hB hx hy
    go_enter Try.func32, Try.ntmps32
    go_wp2_with fail
    refine (HP1.out w false (Below.refl _ _) HK1.out).mono ?_
    rintro e w1 ⟨rfl, hb1⟩
    go_wp2
    go_ret2
    exact ⟨_, by rw [HE2.out]; rfl, by unfold joinL; rw [HE2.out]; exact OwnL.nil _ _ _ _ _, hb1⟩
end Go.Proofs.Ytmljjofpbonplaa.Mg
