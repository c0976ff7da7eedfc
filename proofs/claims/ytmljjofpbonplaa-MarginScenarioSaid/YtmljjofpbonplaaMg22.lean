/-
  The walk of the law MarginJoined.
-/
import Derived.Test.YtmljjofpbonplaaMgJ2
import Derived.Test.YtmljjofpbonplaaMg21
namespace Go.Proofs.Ytmljjofpbonplaa.Mg
open Go.RowKit Go.Proofs.Ytmljjofpbonplaa Go.Proofs.Ytmljjofpbonplaa.Nm Go.Proofs.Ytmljjofpbonplaa.Ls

theorem join_c (a b : Option Addr) (c d : Nat) (xs ys : PL) (w0 w : World) (hxc : xs.length ≤ c) (hyd : ys.length ≤ d) (hx : PLok xs) (hy : PLok ys) (hA : AtL w0 2 pc a xs) (hB : AtL w0 2 pc b ys) (h : Below w0.heap.size w0 w) :
    Calls Try.prog 31 #[.slice a xs.length c, .slice b ys.length d] w (JoinPost xs ys w) :=
  join_any a b c d xs ys w hxc hyd hx hy (hA.below h) (hB.below h)
theorem jl_len (xs ys : PL) : (joinL xs ys).length ≤ 32 := by
  unfold joinL
  by_cases h : joinE xs ys = 0
  · rw [if_pos h]
    rcases joinE_cases xs ys with ⟨_, _, _, _, h⟩ | k
    · exact h
    · exact absurd h k
  · rw [if_neg h]
    simp
theorem jl_ok {xs ys : PL} (hx : PLok xs) (hy : PLok ys) : PLok (joinL xs ys) := by
  have h0 := jl_len xs ys
  unfold joinL at *
  by_cases h : joinE xs ys = 0
  · rw [if_pos h] at *
    refine ⟨by unfold maxLen; omega, fun z hz => ?_, fun z hz => ?_⟩
    · rcases mg_mem (List.mem_filter.1 hz).1 with ⟨u, hu, e⟩ | ⟨u, hu, e⟩
      · rw [← e]; exact hx.s u hu
      · rw [← e]; exact hy.s u hu
    · rcases joinE_cases xs ys with ⟨_, _, _, hq, _⟩ | k
      · have := of_decide_eq_true (hq z (List.mem_filter.1 hz).1)
        unfold i64R
        omega
      · exact absurd h k
  · rw [if_neg h]
    exact ⟨Nat.zero_le _, fun z hz => (by cases hz), fun z hz => (by cases hz)⟩
theorem JoinPost.use {xs ys : PL} {w w' : World} {e : Ending} (h : JoinPost xs ys w e w') : ∃ (a : Option Addr) (c : Nat), e = .returned (.tuple #[.slice a (joinL xs ys).length c, .int .i64 (joinE xs ys)]) ∧ (joinL xs ys).length ≤ c ∧ AtL w' 2 pc a (joinL xs ys) ∧ Below w.heap.size w w' := by
  obtain ⟨v, rfl, ho, hb⟩ := h
  obtain ⟨a, c, rfl, hr, hc, _⟩ := ho.read pc_len
  exact ⟨a, c, rfl, hc, hr, hb⟩

set_option maxRecDepth 100000 in
set_option maxHeartbeats 8000000 in
theorem joined_walk (g : Gr) {w : World} (hG : GrAt w g) (a : Option Addr) (c : Nat) (xs : PL) (hp : PLok xs) (hA : AtL w 2 pc a xs) (hxc : xs.length ≤ c) (b : Option Addr) (d : Nat) (ys : PL) (hq : PLok ys) (hB : AtL w 2 pc b ys) (hyd : ys.length ≤ d) :
    Calls Try.prog 8 #[.agg #[.slice g.wa g.nw g.wc, .slice g.pa g.np g.pc], .slice a xs.length c, .slice b ys.length d] w fun e w' => e = .returned (.bool true) ∧ Below w.heap.size w w' := by
  have hx0 := blk_new w (.cells #[.slice g.wa g.nw g.wc, .slice g.pa g.np g.pc] 25)
  have hbo : Below w.heap.size w (w.alloc (.cells #[.slice g.wa g.nw g.wc, .slice g.pa g.np g.pc] 25)) := (Below.refl _ _).alloc (Nat.le_refl _) _
  have hL1 := pfl_at (c := c) hp hA
  have hL2 := pfl_at (c := d) hq hB
  have HGR := Lib.hid (fun wo h => great_any g a xs.length c wo (hG.below h) hp.n)
  have HGS := Lib.hid (fun wo h => great_any g b ys.length d wo (hG.below h) hq.n)
  have HM1 := Lib.hid (fun wo h => margin_any g (pfl a c xs) wo (hG.below h) (hL1.below h))
  have HM2 := Lib.hid (fun wo h => margin_any g (pfl b d ys) wo (hG.below h) (hL2.below h))
  have HB1 := Lib.hid (fun wo h => base_any g (pfl a c xs) wo (hG.below h) (hL1.below h))
  have HB2 := Lib.hid (fun wo h => base_any g (pfl b d ys) wo (hG.below h) (hL2.below h))
  have HL1 := Lib.hid (fun s wo h hf hs => loss_in g (pfl a c xs) s wo (hG.below h) (hL1.below h) hf hs)
  have HL2 := Lib.hid (fun s wo h hf hs => loss_in g (pfl b d ys) s wo (hG.below h) (hL2.below h) hf hs)
  have HJ1 := Lib.hid (fun wo h => join_c a b c d xs ys w wo hxc hyd hp hq hA hB h)
  have HJ2 := Lib.hid (fun wo h => join_c b a d c ys xs w wo hyd hxc hq hp hB hA h)
  have HOK := Lib.hid (jl_ok hp hq)
  have HGW := Lib.hid hG
  have hjl := jl_len xs ys
  have HC1 := Lib.hid (joinE_comm ys xs)
  have HC2 := Lib.hid (joinL_comm ys xs)
  have HFIT := Lib.hid (fun (dd : Option Addr) (cd : Nat) => join_fit (g := g) (a := a) (b := b) (d := dd) (ca := c) (cb := d) (cd := cd) (xs := xs) (ys := ys))
  clear hG hp hq hA hB hL1 hL2
  go_enter Try.func8, Try.ntmps8
  go_wp2_with fail
  generalize w.alloc _ = wo at hx0 hbo ⊢
  refine (alive_any _).mono ?_
  rintro e w1 ⟨rfl, hb1⟩
  have c1 := bt hbo hb1 (Nat.le_refl _)
  have HX1 := Lib.hid (blk_keep hx0 hb1)
  clear hx0 hbo hb1
  have x0 : w1.cell? ⟨w.heap.size, 0, none⟩ = some (.slice g.wa g.nw g.wc) := cell_of HX1.out 0 _ rfl
  have x1 : w1.cell? ⟨w.heap.size, 1, none⟩ = some (.slice g.pa g.np g.pc) := cell_of HX1.out 1 _ rfl
  go_wp2_with fail
  refine (HGR.out _ c1).mono ?_
  rintro e w2 ⟨rfl, hb2⟩
  have c2 := bt c1 hb2 (Nat.le_refl _)
  have HX2 := Lib.hid (blk_keep HX1.out hb2)
  clear HX1 c1 x0 x1 hb2
  have x0 : w2.cell? ⟨w.heap.size, 0, none⟩ = some (.slice g.wa g.nw g.wc) := cell_of HX2.out 0 _ rfl
  have x1 : w2.cell? ⟨w.heap.size, 1, none⟩ = some (.slice g.pa g.np g.pc) := cell_of HX2.out 1 _ rfl
  rcases hb (greatB g || decide (40 < xs.length)) with hg | hg
  · rw [hg]
    clear hg
    go_wp2
    go_ret
    exact ⟨rfl, c2⟩
  rw [hg]
  clear hg
  go_wp2_with fail
  refine (HGS.out _ c2).mono ?_
  rintro e w3 ⟨rfl, hb3⟩
  have c3 := bt c2 hb3 (Nat.le_refl _)
  have HX3 := Lib.hid (blk_keep HX2.out hb3)
  clear HX2 c2 x0 x1 hb3
  have x0 : w3.cell? ⟨w.heap.size, 0, none⟩ = some (.slice g.wa g.nw g.wc) := cell_of HX3.out 0 _ rfl
  have x1 : w3.cell? ⟨w.heap.size, 1, none⟩ = some (.slice g.pa g.np g.pc) := cell_of HX3.out 1 _ rfl
  rcases hb (greatB g || decide (40 < ys.length)) with hg | hg
  · rw [hg]
    clear hg
    go_wp2
    go_ret
    exact ⟨rfl, c3⟩
  rw [hg]
  clear hg
  go_wp2_with fail
  refine (HJ1.out _ c3).mono ?_
  intro e w4 hj4
  obtain ⟨aj, cj, rfl, _, hr4, hb4⟩ := hj4.use
  clear hj4
  have c4 := bt c3 hb4 (Nat.le_refl _)
  have HX4 := Lib.hid (blk_keep HX3.out hb4)
  have HR4 := Lib.hid hr4
  clear hr4
  clear HX3 c3 x0 x1 hb4
  have x0 : w4.cell? ⟨w.heap.size, 0, none⟩ = some (.slice g.wa g.nw g.wc) := cell_of HX4.out 0 _ rfl
  have x1 : w4.cell? ⟨w.heap.size, 1, none⟩ = some (.slice g.pa g.np g.pc) := cell_of HX4.out 1 _ rfl
  go_wp2_with fail
  refine (HJ2.out _ c4).mono ?_
  intro e w5 hj5
  obtain ⟨ak, ck, rfl, _, hr5, hb5⟩ := hj5.use
  clear hj5
  rw [HC1.out, HC2.out] at *
  have c5 := bt c4 hb5 (Nat.le_refl _)
  have HX5 := Lib.hid (blk_keep HX4.out hb5)
  have HR5 := Lib.hid hr5
  clear hr5
  have HR4' := Lib.hid (HR4.out.below hb5)
  clear HR4
  clear HX4 c4 x0 x1 hb5
  have x0 : w5.cell? ⟨w.heap.size, 0, none⟩ = some (.slice g.wa g.nw g.wc) := cell_of HX5.out 0 _ rfl
  have x1 : w5.cell? ⟨w.heap.size, 1, none⟩ = some (.slice g.pa g.np g.pc) := cell_of HX5.out 1 _ rfl
  have hne : (joinE xs ys != joinE xs ys) = false := bne_self_eq_false _
  go_wp2_with fail
  refine (refSame_any aj ak cj ck (joinL xs ys) (joinL xs ys) _ HOK.out.n HR4'.out HR5.out).mono ?_
  rintro e w6 ⟨rfl, hb6⟩
  have c6 := bt c5 hb6 (Nat.le_refl _)
  have HX6 := Lib.hid (blk_keep HX5.out hb6)
  have HJA := Lib.hid (HR4'.out.below hb6)
  clear HR4' HR5
  clear HX5 c5 x0 x1 hb6
  have x0 : w6.cell? ⟨w.heap.size, 0, none⟩ = some (.slice g.wa g.nw g.wc) := cell_of HX6.out 0 _ rfl
  have x1 : w6.cell? ⟨w.heap.size, 1, none⟩ = some (.slice g.pa g.np g.pc) := cell_of HX6.out 1 _ rfl
  have hd : decide (joinL xs ys = joinL xs ys) = true := decide_eq_true rfl
  rw [hd]
  clear hd hne
  go_wp2_with fail
  refine (HM1.out _ c6).mono ?_
  rintro e w7 ⟨rfl, hb7⟩
  have c7 := bt c6 hb7 (Nat.le_refl _)
  have HX7 := Lib.hid (blk_keep HX6.out hb7)
  have HJA' := Lib.hid (HJA.out.below hb7)
  clear HJA
  have HJA := HJA'
  clear HJA'
  clear HX6 c6 x0 x1 hb7
  have x0 : w7.cell? ⟨w.heap.size, 0, none⟩ = some (.slice g.wa g.nw g.wc) := cell_of HX7.out 0 _ rfl
  have x1 : w7.cell? ⟨w.heap.size, 1, none⟩ = some (.slice g.pa g.np g.pc) := cell_of HX7.out 1 _ rfl
  go_wp2_with fail
  refine (HM2.out _ c7).mono ?_
  rintro e w8 ⟨rfl, hb8⟩
  have c8 := bt c7 hb8 (Nat.le_refl _)
  have HX8 := Lib.hid (blk_keep HX7.out hb8)
  have HJA' := Lib.hid (HJA.out.below hb8)
  clear HJA
  have HJA := HJA'
  clear HJA'
  clear HX7 c7 x0 x1 hb8
  have x0 : w8.cell? ⟨w.heap.size, 0, none⟩ = some (.slice g.wa g.nw g.wc) := cell_of HX8.out 0 _ rfl
  have x1 : w8.cell? ⟨w.heap.size, 1, none⟩ = some (.slice g.pa g.np g.pc) := cell_of HX8.out 1 _ rfl
  by_cases hj : joinE xs ys = 0
  · rcases hb (fit g (pfl a c xs)) with hf1 | hf1
    · rcases hb (fit g (pfl b d ys)) with hf2 | hf2
      · obtain ⟨hf3, hls, hbs, had⟩ := HFIT.out aj cj hf1 hf2 hj
        have hnw := (fit_ok hf1).g.w50
        have HF1 := Lib.hid hf1
        have HF2 := Lib.hid hf2
        have HF3 := Lib.hid hf3
        have HLS := Lib.hid hls
        have q1 := wBase_bd g (pfl a c xs)
        have q2 := wBase_bd g (pfl b d ys)
        have q3 := wBase_bd g (pfl aj cj (joinL xs ys))
        have r1 := addV_bd g (pfl a c xs)
        have r2 := addV_bd g (pfl b d ys)
        have hmm : margV g (pfl aj cj (joinL xs ys)) ≤ margV g (pfl a c xs) + margV g (pfl b d ys) ∧ 0 ≤ margV g (pfl a c xs) ∧ margV g (pfl a c xs) ≤ 562949953421312 ∧ 0 ≤ margV g (pfl b d ys) ∧ margV g (pfl b d ys) ≤ 562949953421312 := by unfold margV; omega
        have HLB1 := Lib.hid (fun s hs => loss_bd hf1 s hs)
        have HLB2 := Lib.hid (fun s hs => loss_bd hf2 s hs)
        rw [hf1, hf2, hj]
        have hev : errV true = 0 := rfl
        rw [hev]
        clear hev
        clear hf1 hf2 hf3 hls hj had r1 r2
        go_wp2_with fail
        refine (margin_any g (pfl aj cj (joinL xs ys)) _ (HGW.out.below c8) (pfl_at HOK.out HJA.out)).mono ?_
        rintro e w9 ⟨rfl, hb9⟩
        have c9 := bt c8 hb9 (Nat.le_refl _)
        have HX9 := Lib.hid (blk_keep HX8.out hb9)
        have HJA' := Lib.hid (HJA.out.below hb9)
        clear HJA
        have HJA := HJA'
        clear HJA'
        clear HX8 c8 x0 x1 hb9
        have x0 : w9.cell? ⟨w.heap.size, 0, none⟩ = some (.slice g.wa g.nw g.wc) := cell_of HX9.out 0 _ rfl
        have x1 : w9.cell? ⟨w.heap.size, 1, none⟩ = some (.slice g.pa g.np g.pc) := cell_of HX9.out 1 _ rfl
        rw [HF3.out]
        have hev : errV true = 0 := rfl
        rw [hev]
        clear hev
        go_wp2_with fail
        refine (HB1.out _ c9).mono ?_
        rintro e w10 ⟨rfl, hb10⟩
        have c10 := bt c9 hb10 (Nat.le_refl _)
        have HX10 := Lib.hid (blk_keep HX9.out hb10)
        have HJA' := Lib.hid (HJA.out.below hb10)
        clear HJA
        have HJA := HJA'
        clear HJA'
        clear HX9 c9 x0 x1 hb10
        have x0 : w10.cell? ⟨w.heap.size, 0, none⟩ = some (.slice g.wa g.nw g.wc) := cell_of HX10.out 0 _ rfl
        have x1 : w10.cell? ⟨w.heap.size, 1, none⟩ = some (.slice g.pa g.np g.pc) := cell_of HX10.out 1 _ rfl
        rw [HF1.out]
        have hev : errV true = 0 := rfl
        rw [hev]
        clear hev
        go_wp2_with fail
        refine (HB2.out _ c10).mono ?_
        rintro e w11 ⟨rfl, hb11⟩
        have c11 := bt c10 hb11 (Nat.le_refl _)
        have HX11 := Lib.hid (blk_keep HX10.out hb11)
        have HJA' := Lib.hid (HJA.out.below hb11)
        clear HJA
        have HJA := HJA'
        clear HJA'
        clear HX10 c10 x0 x1 hb11
        have x0 : w11.cell? ⟨w.heap.size, 0, none⟩ = some (.slice g.wa g.nw g.wc) := cell_of HX11.out 0 _ rfl
        have x1 : w11.cell? ⟨w.heap.size, 1, none⟩ = some (.slice g.pa g.np g.pc) := cell_of HX11.out 1 _ rfl
        rw [HF2.out]
        have hev : errV true = 0 := rfl
        rw [hev]
        clear hev
        go_wp2_with fail
        refine (base_any g (pfl aj cj (joinL xs ys)) _ (HGW.out.below c11) (pfl_at HOK.out HJA.out)).mono ?_
        rintro e w12 ⟨rfl, hb12⟩
        have c12 := bt c11 hb12 (Nat.le_refl _)
        have HX12 := Lib.hid (blk_keep HX11.out hb12)
        have HJA' := Lib.hid (HJA.out.below hb12)
        clear HJA
        have HJA := HJA'
        clear HJA'
        clear HX11 c11 x0 x1 hb12
        have x0 : w12.cell? ⟨w.heap.size, 0, none⟩ = some (.slice g.wa g.nw g.wc) := cell_of HX12.out 0 _ rfl
        have x1 : w12.cell? ⟨w.heap.size, 1, none⟩ = some (.slice g.pa g.np g.pc) := cell_of HX12.out 1 _ rfl
        rw [HF3.out]
        have hev : errV true = 0 := rfl
        rw [hev]
        clear hev
        generalize margV g (pfl a c xs) = M1 at *
        generalize margV g (pfl b d ys) = M2 at *
        generalize margV g (pfl aj cj (joinL xs ys)) = M3 at *
        generalize wBase g (pfl a c xs) = B1 at *
        generalize wBase g (pfl b d ys) = B2 at *
        generalize wBase g (pfl aj cj (joinL xs ys)) = B3 at *
        have n1 : IntKind.i64.wrap (M1 + M2) = M1 + M2 := IntWalk.i64_in _ (by omega)
        have n2 : IntKind.i64.wrap (B1 + B2) = B1 + B2 := IntWalk.i64_in _ (by omega)
        have t1 : ¬ M1 + M2 < M3 := by omega
        have t2 : ¬ B1 + B2 < B3 := by omega
        go_wp2_with fail
        clear n1 n2 t1 t2
        go_loopw [24, 25, 26, 27, 28, 29, 30] (fun i _ _ _ _ _ _ wr => ∃ s : Nat, s ≤ g.nw ∧ i = .int .i64 s ∧ Below w.heap.size w wr ∧ Hid (wr.heap[w.heap.size]? = some (.cells #[.slice g.wa g.nw g.wc, .slice g.pa g.np g.pc] 25 (0, 0))) ∧ Hid (AtL wr 2 pc aj (joinL xs ys))) (fun i _ _ _ _ _ _ _ => g.nw - (intOf i).toNat)
        case atStart => exact ⟨0, by omega, rfl, c12, HX12, HJA⟩
        case round =>
          clear c12 HX12 HJA x0 x1
          obtain ⟨s, hs, rfl, c13, HX13, HJA⟩ := hrel
          have x0 : wr.cell? ⟨w.heap.size, 0, none⟩ = some (.slice g.wa g.nw g.wc) := cell_of HX13.out 0 _ rfl
          have x1 : wr.cell? ⟨w.heap.size, 1, none⟩ = some (.slice g.pa g.np g.pc) := cell_of HX13.out 1 _ rfl
          by_cases hlt : s < g.nw
          · have k0 : (0 : Int) ≤ s := by omega
            go_wp2_with fail
            refine (HL1.out s _ c13 HF1.out hlt).mono ?_
            rintro e w14 ⟨rfl, hb14⟩
            have c14 := bt c13 hb14 (Nat.le_refl _)
            have HX14 := Lib.hid (blk_keep HX13.out hb14)
            have HJA' := Lib.hid (HJA.out.below hb14)
            clear HJA
            have HJA := HJA'
            clear HJA'
            clear HX13 c13 x0 x1 hb14
            have x0 : w14.cell? ⟨w.heap.size, 0, none⟩ = some (.slice g.wa g.nw g.wc) := cell_of HX14.out 0 _ rfl
            have x1 : w14.cell? ⟨w.heap.size, 1, none⟩ = some (.slice g.pa g.np g.pc) := cell_of HX14.out 1 _ rfl
            go_wp2_with fail
            refine (HL2.out s _ c14 HF2.out hlt).mono ?_
            rintro e w15 ⟨rfl, hb15⟩
            have c15 := bt c14 hb15 (Nat.le_refl _)
            have HX15 := Lib.hid (blk_keep HX14.out hb15)
            have HJA' := Lib.hid (HJA.out.below hb15)
            clear HJA
            have HJA := HJA'
            clear HJA'
            clear HX14 c14 x0 x1 hb15
            have x0 : w15.cell? ⟨w.heap.size, 0, none⟩ = some (.slice g.wa g.nw g.wc) := cell_of HX15.out 0 _ rfl
            have x1 : w15.cell? ⟨w.heap.size, 1, none⟩ = some (.slice g.pa g.np g.pc) := cell_of HX15.out 1 _ rfl
            go_wp2_with fail
            refine (loss_in g (pfl aj cj (joinL xs ys)) s _ (HGW.out.below c15) (pfl_at HOK.out HJA.out) HF3.out hlt).mono ?_
            rintro e w16 ⟨rfl, hb16⟩
            have c16 := bt c15 hb16 (Nat.le_refl _)
            have HX16 := Lib.hid (blk_keep HX15.out hb16)
            have HJA' := Lib.hid (HJA.out.below hb16)
            clear HJA
            have HJA := HJA'
            clear HJA'
            clear HX15 c15 x0 x1 hb16
            have x0 : w16.cell? ⟨w.heap.size, 0, none⟩ = some (.slice g.wa g.nw g.wc) := cell_of HX16.out 0 _ rfl
            have x1 : w16.cell? ⟨w.heap.size, 1, none⟩ = some (.slice g.pa g.np g.pc) := cell_of HX16.out 1 _ rfl
            have y1 := HLB1.out s hlt
            have y2 := HLB2.out s hlt
            rw [HLS.out s]
            generalize loss g (pfl a c xs) s = L1 at *
            generalize loss g (pfl b d ys) s = L2 at *
            have n1 : IntKind.i64.wrap (L1 + L2) = L1 + L2 := IntWalk.i64_in _ (by omega)
            have n2 : (L1 + L2 != L1 + L2) = false := bne_self_eq_false _
            go_wp2
            go_roundw
            case rel => exact ⟨s + 1, by omega, by go_num, c16, HX16, HJA⟩
            case measure => simp [intOf]; omega
          · obtain rfl : s = g.nw := by omega
            go_wp2
            go_ret
            exact ⟨rfl, c13⟩
      · rw [hf1, hf2, hj]
        have hev : errV true = 0 := rfl
        rw [hev]
        clear hev
        have hev : errV false = 8 := rfl
        rw [hev]
        clear hev
        go_wp2
        go_ret
        exact ⟨rfl, c8⟩
    · rw [hf1, hj]
      have hev : errV false = 8 := rfl
      rw [hev]
      clear hev
      generalize errV (fit g (pfl b d ys)) = E2
      go_wp2
      go_ret
      exact ⟨rfl, c8⟩
  · have hne : (joinE xs ys != 0) = true := by rw [bne_iff_ne]; exact hj
    generalize errV (fit g (pfl a c xs)) = E1
    generalize errV (fit g (pfl b d ys)) = E2
    generalize joinE xs ys = E3 at *
    go_wp2
    go_ret
    exact ⟨rfl, c8⟩
end Go.Proofs.Ytmljjofpbonplaa.Mg
