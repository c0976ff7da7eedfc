/-
  The walk of the law MarginMirror.
-/
import Derived.Test.YtmljjofpbonplaaMgJ3
import Derived.Test.YtmljjofpbonplaaMg22
namespace Go.Proofs.Ytmljjofpbonplaa.Mg
open Go.RowKit Go.Proofs.Ytmljjofpbonplaa Go.Proofs.Ytmljjofpbonplaa.Nm Go.Proofs.Ytmljjofpbonplaa.Ls

set_option maxRecDepth 100000 in
set_option maxHeartbeats 8000000 in
theorem mirror_walk (g : Gr) {w : World} (hG : GrAt w g) (a : Option Addr) (c : Nat) (xs : PL) (hp : PLok xs) (hA : AtL w 2 pc a xs) (hxc : xs.length ≤ c) :
    Calls Try.prog 9 #[.agg #[.slice g.wa g.nw g.wc, .slice g.pa g.np g.pc], .slice a xs.length c] w fun e w' => e = .returned (.bool true) ∧ Below w.heap.size w w' := by
  have hx0 := blk_new w (.cells #[.slice g.wa g.nw g.wc, .slice g.pa g.np g.pc] 25)
  have hbo : Below w.heap.size w (w.alloc (.cells #[.slice g.wa g.nw g.wc, .slice g.pa g.np g.pc] 25)) := (Below.refl _ _).alloc (Nat.le_refl _) _
  obtain ⟨A, hla⟩ : ∃ A, A = a := ⟨_, rfl⟩
  have hL1 := pfl_at (c := c) hp hA
  have HGR := Lib.hid (fun wo h => great_any g a xs.length c wo (hG.below h) hp.n)
  have HD1 := Lib.hid (fun wo h => addOn_any g (pfl a c xs) wo (hG.below h) (hL1.below h))
  have HL1 := Lib.hid (fun s wo h hf hs => loss_in g (pfl a c xs) s wo (hG.below h) (hL1.below h) hf hs)
  have HJ1 := Lib.hid (fun b d wo (hB : AtL wo 2 pc b (ngL xs)) (hd : (ngL xs).length ≤ d) (h : Below w.heap.size w wo) => join_any a b c d xs (ngL xs) wo hxc hd hp (ngL_ok hp) (hA.below h) hB)
  have HGW := Lib.hid hG
  have HAT := Lib.hid hA
  have HOK := Lib.hid hp
  have HNK := Lib.hid (ngL_ok hp)
  have hxn := hp.n
  unfold maxLen at hxn
  rw [← hla] at *
  clear hG hp hA hL1 hla
  go_enter Try.func9, Try.ntmps9
  go_wp2_with fail
  generalize w.alloc _ = wo at hx0 hbo ⊢
  refine (alive_any _).mono ?_
  rintro e w1 ⟨rfl, hb1⟩
  have c1 := bt hbo hb1 (Nat.le_refl _)
  have HX1 := Lib.hid (blk_keep hx0 hb1)
  clear hx0 hbo hb1
  have x0 : w1.cell? ⟨w.heap.size, 0, none⟩ = some (.slice g.wa g.nw g.wc) := cell_of HX1.out 0 _ rfl
  have x1 : w1.cell? ⟨w.heap.size, 1, none⟩ = some (.slice g.pa g.np g.pc) := cell_of HX1.out 1 _ rfl
  go_wp2_with fail
  refine (HGR.out _ c1).mono ?_
  rintro e w2 ⟨rfl, hb2⟩
  have c2 := bt c1 hb2 (Nat.le_refl _)
  have HX2 := Lib.hid (blk_keep HX1.out hb2)
  clear HX1 c1 x0 x1 hb2
  have x0 : w2.cell? ⟨w.heap.size, 0, none⟩ = some (.slice g.wa g.nw g.wc) := cell_of HX2.out 0 _ rfl
  have x1 : w2.cell? ⟨w.heap.size, 1, none⟩ = some (.slice g.pa g.np g.pc) := cell_of HX2.out 1 _ rfl
  rcases hb (greatB g || decide (40 < xs.length)) with hg | hg
  · rw [hg]
    clear hg
    go_wp2
    go_ret
    exact ⟨rfl, c2⟩
  have h40 : xs.length ≤ 40 := by rw [Bool.or_eq_false_iff, decide_eq_false_iff_not] at hg; omega
  rw [hg]
  clear hg
  go_wp2_with fail
  go_loopw [6, 7] (fun o i wr => ∃ k : Nat, k ≤ xs.length ∧ i = .int .i64 k ∧ Hid (OwnL wr (w.heap.size + 1) 51 2 pc o ((ngL xs).take k)) ∧ Below w.heap.size w wr ∧ Hid (wr.heap[w.heap.size]? = some (.cells #[.slice g.wa g.nw g.wc, .slice g.pa g.np g.pc] 25 (0, 0)))) (fun _ i _ => xs.length - (intOf i).toNat)
  case atStart => exact ⟨0, by omega, rfl, OwnL.nil _ _ _ _ _, c2, HX2⟩
  case round =>
    clear c2 HX2 x0 x1
    obtain ⟨k, hk, rfl, HO, hbw, HX3⟩ := hrel
    by_cases hlt : k < xs.length
    · obtain ⟨bx, ox, rfl, hcx⟩ := (HAT.out.below hbw) k _ (getElem?_lt hlt)
      have q0 : wr.cell? ⟨bx, ox + k * 2, none⟩ = some (.string xs[k].1) := hcx 0 _ rfl
      have q1 : wr.cell? ⟨bx, ox + k * 2 + 1, none⟩ = some (.int .i64 xs[k].2) := hcx 1 _ rfl
      obtain ⟨bz, oz, hz, hcz⟩ := HAT.out k _ (getElem?_lt hlt)
      cases hz
      have hbz : bx < w.heap.size := World.block_lt_of_cell? _ _ (hcz 0 _ rfl)
      clear hcx hcz
      have hsz : w.heap.size < wr.heap.size := blk_lt HX3.out
      have k0 : (0 : Int) ≤ k := by omega
      have k1 : (k : Int) < xs.length := by omega
      have HTK := Lib.hid (show (ngL xs).take (k + 1) = (ngL xs).take k ++ [(xs[k].1, ng xs[k].2)] by
        rw [List.take_succ_eq_append_getElem (by rw [ngL_len]; exact hlt)]
        simp [ngL])
      have HLN := Lib.hid (show ((ngL xs).take k).length = k by rw [List.length_take, ngL_len]; omega)
      have HNG := Lib.hid (show ng xs[k].2 = IntKind.i64.wrap (-xs[k].2) from rfl)
      generalize xs[k] = x at *
      have hlt6 := HO.out.lt
      have hne : ∀ b : Nat, u6.ownBlock = some b → bx ≠ b := fun b h => by have := (hlt6 b h).1; omega
      have HNE := Lib.hid hne
      clear hne hlt6
      go_wp2_with fail
      go_region_held3 (fun w' => w'.cell? ⟨bx, ox + k * 2, none⟩ = some (.string x.1) ∧ w'.cell? ⟨bx, ox + k * 2 + 1, none⟩ = some (.int .i64 x.2))
        (first | go_keep | (go_split_ands; refine ⟨?_, ?_⟩ <;> (rw [hgr.cell_far _ (by simp; omega) (fun e => HNE.out _ e.symm rfl)]; go_keep)))
        ((refine step_append_L (P := Try.prog) (α := ByteArray × Int) rfl _ _ _ rfl 51 (.agg #[.string ⟨#[]⟩, .int .i64 0]) 2 24 Try.underlying26 (by kernel_rfl) rfl (by decide) (w.heap.size + 1) pc u6 ((ngL xs).take k) (x.1, ng x.2) wr.heap.size #[.string x.1, .int .i64 (IntKind.i64.wrap (-x.2))] (by rfl) (by rfl) (HO.out.below ((Below.refl _ _).drew.alloc (Nat.le_refl _) _)) (blk_new _ _) rfl rfl (by simp [pc, Value.oneCell']) (by rw [HLN.out]; unfold maxLen; omega) (by rw [HLN.out]; omega) (by simp; omega) ?_; intro g1 cap w9 hown9 hgr hat9))
      have HC9 : Hid (Below w.heap.size w w9) := by
        first
          | exact (hbw.drew.alloc hbw.size _).grown hgr (by simp; omega) (fun k hk => by have := (HO.out.lt k hk).1; omega)
          | exact (hbw.alloc hbw.size _).drew.grown hgr (by simp; omega) (fun k hk => by have := (HO.out.lt k hk).1; omega)
      have HX9 : Hid (w9.heap[w.heap.size]? = some (.cells #[.slice g.wa g.nw g.wc, .slice g.pa g.np g.pc] 25 (0, 0))) := by
        refine (hgr.block w.heap.size (by simp; omega) (fun e => by have := (HO.out.lt _ e.symm).1; omega)).trans ?_
        first
          | exact blk_past _ _ HX3.out
          | exact blk_past wr.drew _ HX3.out
      have HO9 : Hid (OwnL w9 (w.heap.size + 1) 51 2 pc (.slice (some ⟨g1, 0, none⟩) (min k (ngL xs).length + 1) cap) ((ngL xs).take (k + 1))) := by
        unfold Hid
        rw [HTK.out]
        have := hown9
        rw [List.length_take] at this
        exact this
      clear hown9 hgr hat9 HO hbw HX3
      go_wp2
      go_roundw
      case rel => exact ⟨k + 1, by omega, by go_num, HO9, HC9.out, HX9⟩
      case measure => simp [intOf]; omega
    · obtain rfl : k = xs.length := by omega
      have HO2 : Hid (OwnL wr (w.heap.size + 1) 51 2 pc u6 (ngL xs)) := by
        have := HO.out
        rwa [List.take_of_length_le (by rw [ngL_len]; exact Nat.le_refl _)] at this
      obtain ⟨b, d, rfl, hr, hd, _⟩ := HO2.out.read pc_len
      have HR := Lib.hid hr
      clear HO HO2 hr
      have hnl := ngL_len xs
      have HNL := Lib.hid hnl
      clear hnl
      have x0 : wr.cell? ⟨w.heap.size, 0, none⟩ = some (.slice g.wa g.nw g.wc) := cell_of HX3.out 0 _ rfl
      have x1 : wr.cell? ⟨w.heap.size, 1, none⟩ = some (.slice g.pa g.np g.pc) := cell_of HX3.out 1 _ rfl
      have c3 := hbw
      clear hbw
      go_wp2_with fail
      refine (HD1.out _ c3).mono ?_
      rintro e w4 ⟨rfl, hb4⟩
      have c4 := bt c3 hb4 (Nat.le_refl _)
      have HX4 := Lib.hid (blk_keep HX3.out hb4)
      have HR' := Lib.hid (HR.out.below hb4)
      clear HR
      have HR := HR'
      clear HR'
      clear HX3 c3 x0 x1 hb4
      have x0 : w4.cell? ⟨w.heap.size, 0, none⟩ = some (.slice g.wa g.nw g.wc) := cell_of HX4.out 0 _ rfl
      have x1 : w4.cell? ⟨w.heap.size, 1, none⟩ = some (.slice g.pa g.np g.pc) := cell_of HX4.out 1 _ rfl
      go_wp2_with fail
      refine (addOn_any g (pfl b d (ngL xs)) _ (HGW.out.below c4) (pfl_at HNK.out HR.out)).mono ?_
      rintro e w5 ⟨rfl, hb5⟩
      have c5 := bt c4 hb5 (Nat.le_refl _)
      have HX5 := Lib.hid (blk_keep HX4.out hb5)
      have HR' := Lib.hid (HR.out.below hb5)
      clear HR
      have HR := HR'
      clear HR'
      clear HX4 c4 x0 x1 hb5
      have x0 : w5.cell? ⟨w.heap.size, 0, none⟩ = some (.slice g.wa g.nw g.wc) := cell_of HX5.out 0 _ rfl
      have x1 : w5.cell? ⟨w.heap.size, 1, none⟩ = some (.slice g.pa g.np g.pc) := cell_of HX5.out 1 _ rfl
      rw [ngL_fit HOK.out A b c d]
      rcases hb (fit g (pfl A c xs)) with hf | hf
      · have HF := Lib.hid hf
        have HFN := Lib.hid ((ngL_fit HOK.out A b c d).trans hf)
        have hnw := (fit_ok hf).g.w50
        have hgood := ((fit_L g A c xs).1 hf).2.1
        have hsum := ngL_sums (g := g) hgood
        have HADD := Lib.hid (show addV g (pfl b d (ngL xs)) = addV g (pfl A c xs) by rw [addV_fit hf, addV_fit (HFN.out), hsum.2.1])
        have HLS := Lib.hid (show ∀ s, loss g (pfl b d (ngL xs)) s = -(loss g (pfl A c xs) s) from fun s => by rw [loss_sum, loss_sum, hsum.1 s])
        have HJE := Lib.hid (ngL_join HOK.out hgood)
        have HNIL := Lib.hid (nil_marg hf)
        have HLB := Lib.hid (fun s hs => loss_bd hf s hs)
        have had := addV_bd g (pfl A c xs)
        rw [hf, HADD.out]
        have hev : errV true = 0 := rfl
        rw [hev]
        clear hev
        clear hf hgood hsum
        go_wp2_with fail
        refine (HJ1.out b d _ HR.out hd c5).mono ?_
        intro e w6 hj6
        obtain ⟨aj, cj, rfl, _, _, hb6⟩ := hj6.use
        clear hj6
        rw [HJE.out.1, HJE.out.2]
        have c6 := bt c5 hb6 (Nat.le_refl _)
        have HX6 := Lib.hid (blk_keep HX5.out hb6)
        have HR' := Lib.hid (HR.out.below hb6)
        clear HR
        have HR := HR'
        clear HR'
        clear HX5 c5 x0 x1 hb6
        have x0 : w6.cell? ⟨w.heap.size, 0, none⟩ = some (.slice g.wa g.nw g.wc) := cell_of HX6.out 0 _ rfl
        have x1 : w6.cell? ⟨w.heap.size, 1, none⟩ = some (.slice g.pa g.np g.pc) := cell_of HX6.out 1 _ rfl
        go_wp2_with fail
        refine (margin_any g (pfl none 0 []) _ (HGW.out.below c6) (pfl_at ⟨Nat.zero_le _, fun z hz => (by cases hz), fun z hz => (by cases hz)⟩ (AtL.nil _ _ _ _))).mono ?_
        rintro e w7 ⟨rfl, hb7⟩
        have c7 := bt c6 hb7 (Nat.le_refl _)
        have HX7 := Lib.hid (blk_keep HX6.out hb7)
        have HR' := Lib.hid (HR.out.below hb7)
        clear HR
        have HR := HR'
        clear HR'
        clear HX6 c6 x0 x1 hb7
        have x0 : w7.cell? ⟨w.heap.size, 0, none⟩ = some (.slice g.wa g.nw g.wc) := cell_of HX7.out 0 _ rfl
        have x1 : w7.cell? ⟨w.heap.size, 1, none⟩ = some (.slice g.pa g.np g.pc) := cell_of HX7.out 1 _ rfl
        rw [HNIL.out.1, HNIL.out.2]
        have hev : errV true = 0 := rfl
        rw [hev]
        clear hev
        have hne : (addV g (pfl A c xs) != addV g (pfl A c xs)) = false := bne_self_eq_false _
        generalize addV g (pfl A c xs) = AV at *
        go_wp2_with fail
        clear hne
        go_loopw [16, 17, 18, 19, 20] (fun i _ _ _ _ wr => ∃ s : Nat, s ≤ g.nw ∧ i = .int .i64 s ∧ Below w.heap.size w wr ∧ Hid (wr.heap[w.heap.size]? = some (.cells #[.slice g.wa g.nw g.wc, .slice g.pa g.np g.pc] 25 (0, 0))) ∧ Hid (AtL wr 2 pc b (ngL xs))) (fun i _ _ _ _ _ => g.nw - (intOf i).toNat)
        case atStart => exact ⟨0, by omega, rfl, c7, HX7, HR⟩
        case round =>
          clear c7 HX7 HR x0 x1
          obtain ⟨s, hs, rfl, c8, HX8, HR⟩ := hrel
          have x0 : wr.cell? ⟨w.heap.size, 0, none⟩ = some (.slice g.wa g.nw g.wc) := cell_of HX8.out 0 _ rfl
          have x1 : wr.cell? ⟨w.heap.size, 1, none⟩ = some (.slice g.pa g.np g.pc) := cell_of HX8.out 1 _ rfl
          by_cases hlt : s < g.nw
          · have k0 : (0 : Int) ≤ s := by omega
            go_wp2_with fail
            refine (HL1.out s _ c8 HF.out hlt).mono ?_
            rintro e w9 ⟨rfl, hb9⟩
            have c9 := bt c8 hb9 (Nat.le_refl _)
            have HX9 := Lib.hid (blk_keep HX8.out hb9)
            have HR' := Lib.hid (HR.out.below hb9)
            clear HR
            have HR := HR'
            clear HR'
            clear HX8 c8 x0 x1 hb9
            have x0 : w9.cell? ⟨w.heap.size, 0, none⟩ = some (.slice g.wa g.nw g.wc) := cell_of HX9.out 0 _ rfl
            have x1 : w9.cell? ⟨w.heap.size, 1, none⟩ = some (.slice g.pa g.np g.pc) := cell_of HX9.out 1 _ rfl
            go_wp2_with fail
            refine (loss_in g (pfl b d (ngL xs)) s _ (HGW.out.below c9) (pfl_at HNK.out HR.out) HFN.out hlt).mono ?_
            rintro e w10 ⟨rfl, hb10⟩
            have c10 := bt c9 hb10 (Nat.le_refl _)
            have HX10 := Lib.hid (blk_keep HX9.out hb10)
            have HR' := Lib.hid (HR.out.below hb10)
            clear HR
            have HR := HR'
            clear HR'
            clear HX9 c9 x0 x1 hb10
            have x0 : w10.cell? ⟨w.heap.size, 0, none⟩ = some (.slice g.wa g.nw g.wc) := cell_of HX10.out 0 _ rfl
            have x1 : w10.cell? ⟨w.heap.size, 1, none⟩ = some (.slice g.pa g.np g.pc) := cell_of HX10.out 1 _ rfl
            have y1 := HLB.out s hlt
            rw [HLS.out s]
            generalize loss g (pfl A c xs) s = L1 at *
            have n1 : IntKind.i64.wrap (- -L1) = L1 := by rw [Int.neg_neg]; exact IntWalk.i64_in _ (by omega)
            have n2 : (L1 != L1) = false := bne_self_eq_false _
            have n3 : IntKind.i64.wrap L1 = L1 := IntWalk.i64_in _ (by omega)
            go_wp2
            go_roundw
            case rel => exact ⟨s + 1, by omega, by go_num, c10, HX10, HR⟩
            case measure => simp [intOf]; omega
          · obtain rfl : s = g.nw := by omega
            go_wp2
            go_ret
            exact ⟨rfl, c8⟩
      · rw [hf]
        have hev : errV false = 8 := rfl
        rw [hev]
        clear hev
        go_wp2
        go_ret
        exact ⟨rfl, c5⟩
end Go.Proofs.Ytmljjofpbonplaa.Mg
