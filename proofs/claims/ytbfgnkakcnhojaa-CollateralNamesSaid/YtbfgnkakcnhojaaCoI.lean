/-
  Collateral: the walk of the program's Put.
-/
import Derived.Test.YtbfgnkakcnhojaaCoH
namespace Go.Proofs.Ytbfgnkakcnhojaa.Co
open Go.RowKit Go.Proofs.Ytbfgnkakcnhojaa Go.Proofs.Ytbfgnkakcnhojaa.Ls Go.Proofs.Ytbfgnkakcnhojaa.Kb
open Go.Proofs.Ytbfgnkakcnhojaa.Nm hiding ret_bool ret_int

/-- how many holdings stand ahead of an asset -/
def pl (L : List (ByteArray × Int)) (t : ByteArray) : Nat := (L.takeWhile fun h => lt h.1 t).length
theorem pl_is (L : List (ByteArray × Int)) (t : ByteArray) (J : Nat) (hJ : J ≤ L.length) (h1 : ∀ i, i < J → lt (gi L i).1 t = true) (h2 : ∀ i, J ≤ i → i < L.length → lt (gi L i).1 t = false) : pl L t = J := by
  induction L generalizing J with
  | nil => simp at hJ; subst hJ; rfl
  | cons x L ih =>
    unfold pl
    cases J with
    | zero =>
      have := h2 0 (by omega) (by simp)
      rw [List.takeWhile_cons, show lt x.1 t = false from this]
      rfl
    | succ J =>
      have := h1 0 (by omega)
      rw [List.takeWhile_cons, show lt x.1 t = true from this]
      have h3 := ih J (by simpa using hJ) (fun i hi => h1 (i + 1) (by omega)) (fun i hi hl => h2 (i + 1) (by omega) (by simpa using hl))
      unfold pl at h3
      simp only [if_true, List.length_cons, h3]
/-- Put's error and result -/
def putE (L : List (ByteArray × Int)) (t : ByteArray) (n : Int) : Int := if askE L t n = 0 then (match fnL L t with | some i => if 1048576 < (gi L i).2 + n then 52 else 0 | none => if 32 < L.length + 1 then 4 else 0) else askE L t n
def putL (L : List (ByteArray × Int)) (t : ByteArray) (n : Int) : List (ByteArray × Int) := match fnL L t with | some i => L.take i ++ ((gi L i).1, (gi L i).2 + n) :: L.drop (i + 1) | none => L.take (pl L t) ++ (t, n) :: L.drop (pl L t)
def putV (L : List (ByteArray × Int)) (t : ByteArray) (n : Int) : List (ByteArray × Int) := if putE L t n = 0 then putL L t n else []

set_option maxRecDepth 100000 in
set_option maxHeartbeats 4000000 in
theorem put_any (a : Option Addr) (c : Nat) (L : List (ByteArray × Int)) (t : ByteArray) (n : Int) (w : World) (hn : L.length ≤ 1000) (hZ : SzL L) (ht : t.size ≤ maxLen) (hA : AtL w 2 isc a L) :
    Calls Try.prog 30 #[.slice a L.length c, .string t, .int .i64 n] w fun e w' => ∃ a' c', e = .returned (.tuple #[.slice a' (putV L t n).length c', .int .i64 (putE L t n)]) ∧ OwnL w' w.heap.size 56 2 isc (.slice a' (putV L t n).length c') (putV L t n) ∧ Below w.heap.size w w' := by
  have HK := Lib.hid (asked_any a c L t n w hn hZ ht hA)
  have HA := Lib.hid hA
  clear hA
  rcases askE_cases L t n with ⟨h, hh, _, n0, n1⟩ | h
  · rw [h] at HK
    obtain ⟨J, p1, p2, p3, p4⟩ := placeL hh t
    have HU := Lib.hid (holB_at hh)
    have hl32 := holB_len hh
    have HPL := Lib.hid (pl_is L t J p1 p2 p3)
    rcases p4 with ⟨f1, f2, f3, f4⟩ | ⟨f1, f2, _⟩
    · have hul := HU.out J f2
      have hJi : (J : Int) < L.length := by omega
      have HFD := Lib.hid (fun (v : World) (hv : AtL v 2 isc a L) => find_any a c L t J true v hn hv p1 p2 p3 (by rw [decide_eq_true f2, f3]; rfl))
      by_cases hl : 1048576 < (gi L J).2 + n
      · have HE := Lib.hid (show putE L t n = 52 by unfold putE; rw [if_pos h, f1]; exact if_pos hl)
        have HV := Lib.hid (show putV L t n = [] by unfold putV; rw [HE.out]; rfl)
        rw [HE.out, HV.out]
        clear p2 p3 f1 f3 f4 h hh HU
        go_enter Try.func30, Try.ntmps30
        go_wp2_with fail
        refine HK.out.mono ?_
        rintro e w1 ⟨rfl, hb1⟩
        go_wp2_with fail
        refine (HFD.out w1 (HA.out.below hb1)).mono ?_
        rintro e w2 ⟨rfl, hb2⟩
        have c2 := bt hb1 hb2 (Nat.le_refl _)
        go_wp2_with fail
        refine (clone_hol a c L w2 hn (HA.out.below c2)).mono ?_
        rintro e w3 ⟨a3, c3, rfl, hO3, hb3⟩
        have c4 := bt c2 hb3 (Nat.le_refl _)
        obtain ⟨g, cur, rfl, _, hgB, hg, hcap, _, _, _⟩ := hO3.row (by omega)
        have hAt := (hO3.sl isc_len).1
        have q1 := (at_is' hAt J f2).2
        simp only [Nat.zero_add] at q1
        change _ = some (Value.int .i64 (gi L J).2) at q1
        have fz : w3.frozen? ⟨g, J * 2 + 1, none⟩ = false := frozen_of hg _
        have hgw : w.heap.size ≤ g := Nat.le_trans c2.size hgB
        have HO := Lib.hid ((own_upd hO3 J f2 ((gi L J).2 + n)).lower' c2.size)
        have HB := Lib.hid (show Below w.heap.size w (w3.setCell ⟨g, J * 2 + 1, none⟩ (.int .i64 ((gi L J).2 + n))) from c4.setCell (p := ⟨g, J * 2 + 1, none⟩) hgw _)
        have hgl := blk_lt hg
        clear hO3 hAt hg hb1 hb2 hb3 c2 c4 HK HFD
        generalize hgu : (gi L J).2 = u at *
        have HGU := Lib.hid hgu
        clear hgu
        have w2q : IntKind.i64.wrap (u + n) = u + n := by rw [IntKind.wrap_i64]; omega
        have HUN := Lib.hid (show decide (1 ≤ u + n ∧ u + n ≤ 1048576) = false from decide_eq_false (by omega))
        go_wp2_with fail
        refine (units_any (u + n) _ _ HUN.out).mono ?_
        rintro e w5 ⟨rfl, rfl⟩
        go_wp2
        go_ret2
        exact ⟨none, 0, rfl, OwnL.nil _ _ _ _ _, HB.out⟩
      · have HE := Lib.hid (show putE L t n = 0 by unfold putE; rw [if_pos h, f1]; exact if_neg hl)
        have HV := Lib.hid (show putV L t n = L.take J ++ ((gi L J).1, (gi L J).2 + n) :: L.drop (J + 1) by unfold putV putL; rw [HE.out, if_pos rfl, f1])
        rw [HE.out, HV.out]
        clear p2 p3 f1 f3 f4 h hh HU
        go_enter Try.func30, Try.ntmps30
        go_wp2_with fail
        refine HK.out.mono ?_
        rintro e w1 ⟨rfl, hb1⟩
        go_wp2_with fail
        refine (HFD.out w1 (HA.out.below hb1)).mono ?_
        rintro e w2 ⟨rfl, hb2⟩
        have c2 := bt hb1 hb2 (Nat.le_refl _)
        go_wp2_with fail
        refine (clone_hol a c L w2 hn (HA.out.below c2)).mono ?_
        rintro e w3 ⟨a3, c3, rfl, hO3, hb3⟩
        have c4 := bt c2 hb3 (Nat.le_refl _)
        obtain ⟨g, cur, rfl, _, hgB, hg, hcap, _, _, _⟩ := hO3.row (by omega)
        have hAt := (hO3.sl isc_len).1
        have q1 := (at_is' hAt J f2).2
        simp only [Nat.zero_add] at q1
        change _ = some (Value.int .i64 (gi L J).2) at q1
        have fz : w3.frozen? ⟨g, J * 2 + 1, none⟩ = false := frozen_of hg _
        have hgw : w.heap.size ≤ g := Nat.le_trans c2.size hgB
        have HO := Lib.hid ((own_upd hO3 J f2 ((gi L J).2 + n)).lower' c2.size)
        have HB := Lib.hid (show Below w.heap.size w (w3.setCell ⟨g, J * 2 + 1, none⟩ (.int .i64 ((gi L J).2 + n))) from c4.setCell (p := ⟨g, J * 2 + 1, none⟩) hgw _)
        have hgl := blk_lt hg
        clear hO3 hAt hg hb1 hb2 hb3 c2 c4 HK HFD
        generalize hgu : (gi L J).2 = u at *
        have HGU := Lib.hid hgu
        clear hgu
        have w2q : IntKind.i64.wrap (u + n) = u + n := by rw [IntKind.wrap_i64]; omega
        have HUN := Lib.hid (show decide (1 ≤ u + n ∧ u + n ≤ 1048576) = true from decide_eq_true (by omega))
        have HLN := Lib.hid (show (L.take J ++ ((gi L J).1, u + n) :: L.drop (J + 1)).length = L.length by rw [List.length_append, List.length_take, List.length_cons, List.length_drop]; omega)
        have hle : ¬ (32 : Int) < L.length := by omega
        go_wp2_with fail
        refine (units_any (u + n) _ _ HUN.out).mono ?_
        rintro e w5 ⟨rfl, rfl⟩
        go_wp2
        go_ret2
        rw [HGU.out]
        exact ⟨_, _, by rw [HLN.out]; rfl, by rw [HLN.out]; exact HO.out, HB.out⟩
    · have HFD := Lib.hid (fun (v : World) (hv : AtL v 2 isc a L) => find_any a c L t J false v hn hv p1 p2 p3 (by
        rcases Nat.lt_or_ge J L.length with g | g
        · rw [decide_eq_true g, Bool.true_and]
          exact (beq_eq_false_iff_ne.2 (f2 g)).symm
        · rw [decide_eq_false (by omega)]
          rfl))
      by_cases hl : 32 < L.length + 1
      · have HE := Lib.hid (show putE L t n = 4 by unfold putE; rw [if_pos h, f1]; exact if_pos hl)
        have HV := Lib.hid (show putV L t n = [] by unfold putV; rw [HE.out]; rfl)
        rw [HE.out, HV.out]
        clear p2 p3 f1 f2 h hh HU
        go_enter Try.func30, Try.ntmps30
        go_wp2_with fail
        refine HK.out.mono ?_
        rintro e w1 ⟨rfl, hb1⟩
        go_wp2_with fail
        refine (HFD.out w1 (HA.out.below hb1)).mono ?_
        rintro e w2 ⟨rfl, hb2⟩
        have c2 := bt hb1 hb2 (Nat.le_refl _)
        go_wp2_with fail
        refine (clone_hol a c L w2 hn (HA.out.below c2)).mono ?_
        rintro e w3 ⟨a3, c3, rfl, hO3, hb3⟩
        have c4 := bt c2 hb3 (Nat.le_refl _)
        go_wp2_with fail
        have hX := blk_new w3 (.cells #[.string t, .int .i64 0] 56)
        have hO3a : OwnL (w3.alloc (.cells #[.string t, .int .i64 0] 56)) w2.heap.size 56 2 isc (.slice a3 L.length c3) L := hO3.below ((Below.refl _ _).alloc (Nat.le_refl _) _)
        have hne3 : ∀ g, (Value.slice a3 L.length c3).ownBlock = some g → w3.heap.size ≠ g := fun g e => by have := (hO3.lt g e).2; omega
        have hlow3 : ∀ g, (Value.slice a3 L.length c3).ownBlock = some g → w.heap.size ≤ g := fun g e => Nat.le_trans c2.size (hO3.lt g e).1
        have c4a : Below w.heap.size w (w3.alloc (.cells #[.string t, .int .i64 0] 56)) := c4.alloc c4.size _
        have hs2 : w2.heap.size ≤ (w3.alloc (.cells #[.string t, .int .i64 0] 56)).heap.size := by have := hb3.size; simp; omega
        refine (insert_hol a3 J c3 w2.heap.size w3.heap.size L (t, 0) #[.string t, .int .i64 0] _ p1 hn hs2 hO3a hX rfl hne3).mono ?_
        rintro e w4 ⟨a4, c4', rfl, hO4, hg4⟩
        have c5 : Below w.heap.size w w4 := c4a.grown hg4 c4a.size (fun r e => hlow3 r e)
        have hLN : (L.take J ++ (t, (0 : Int)) :: L.drop J).length = L.length + 1 := by rw [List.length_append, List.length_take, List.length_cons, List.length_drop]; omega
        have hg0 : gi (L.take J ++ (t, (0 : Int)) :: L.drop J) J = (t, 0) := by
          have hl : (L.take J).length = J := by rw [List.length_take]; omega
          rw [gi_at _ _ (by omega), List.getElem_append_right (by omega)]
          simp [hl]
        rw [← hLN] at hO4 ⊢
        obtain ⟨g, cur, rfl, _, hgB, hg, hcap, _, _, _⟩ := hO4.row (by omega)
        have hAt := (hO4.sl isc_len).1
        have q1 := (at_is' hAt J (by omega)).2
        simp only [Nat.zero_add] at q1
        change _ = some (Value.int .i64 (gi (L.take J ++ (t, (0 : Int)) :: L.drop J) J).2) at q1
        rw [hg0] at q1
        change _ = some (Value.int .i64 0) at q1
        have fz : w4.frozen? ⟨g, J * 2 + 1, none⟩ = false := frozen_of hg _
        have hgw : w.heap.size ≤ g := Nat.le_trans c2.size hgB
        have hup := own_upd hO4 J (by omega) n
        rw [hg0] at hup
        have HTD := Lib.hid (show (L.take J ++ (t, (0 : Int)) :: L.drop J).take J ++ (t, n) :: (L.take J ++ (t, (0 : Int)) :: L.drop J).drop (J + 1) = L.take J ++ (t, n) :: L.drop J by
          have hl : (L.take J).length = J := by rw [List.length_take]; omega
          rw [List.take_left' hl, show L.take J ++ (t, (0 : Int)) :: L.drop J = (L.take J ++ [(t, (0 : Int))]) ++ L.drop J by simp, List.drop_left' (by rw [List.length_append, hl]; rfl)])
        change OwnL _ _ _ _ _ _ ((L.take J ++ (t, (0 : Int)) :: L.drop J).take J ++ (t, n) :: (L.take J ++ (t, (0 : Int)) :: L.drop J).drop (J + 1)) at hup
        rw [HTD.out, hLN] at hup
        have HO := Lib.hid (hup.lower' c2.size)
        have HB := Lib.hid (show Below w.heap.size w (w4.setCell ⟨g, J * 2 + 1, none⟩ (.int .i64 n)) from c5.setCell (p := ⟨g, J * 2 + 1, none⟩) hgw _)
        have hgl := blk_lt hg
        have HLN2 := Lib.hid (show (L.take J ++ (t, n) :: L.drop J).length = L.length + 1 by rw [List.length_append, List.length_take, List.length_cons, List.length_drop]; omega)
        rw [hLN]
        have hJ1 : (J : Int) < (L.length : Int) + 1 := by omega
        clear hO3 hO3a hO4 hX hAt hg hg4 hb1 hb2 hb3 c2 c4 c4a c5 hs2 HK HFD hne3 hlow3 hup hLN hg0 HTD
        have HUN := Lib.hid (show decide (1 ≤ n ∧ n ≤ 1048576) = true from decide_eq_true ⟨n0, n1⟩)
        have hle : (32 : Int) < (L.length : Int) + 1 := by omega
        go_wp2_with fail
        refine (units_any n _ _ HUN.out).mono ?_
        rintro e w5 ⟨rfl, rfl⟩
        go_wp2
        go_ret2
        exact ⟨none, 0, rfl, OwnL.nil _ _ _ _ _, HB.out⟩
      · have HE := Lib.hid (show putE L t n = 0 by unfold putE; rw [if_pos h, f1]; exact if_neg hl)
        have HV := Lib.hid (show putV L t n = L.take J ++ (t, n) :: L.drop J by unfold putV putL; rw [HE.out, if_pos rfl, f1, HPL.out])
        rw [HE.out, HV.out]
        clear p2 p3 f1 f2 h hh HU
        go_enter Try.func30, Try.ntmps30
        go_wp2_with fail
        refine HK.out.mono ?_
        rintro e w1 ⟨rfl, hb1⟩
        go_wp2_with fail
        refine (HFD.out w1 (HA.out.below hb1)).mono ?_
        rintro e w2 ⟨rfl, hb2⟩
        have c2 := bt hb1 hb2 (Nat.le_refl _)
        go_wp2_with fail
        refine (clone_hol a c L w2 hn (HA.out.below c2)).mono ?_
        rintro e w3 ⟨a3, c3, rfl, hO3, hb3⟩
        have c4 := bt c2 hb3 (Nat.le_refl _)
        go_wp2_with fail
        have hX := blk_new w3 (.cells #[.string t, .int .i64 0] 56)
        have hO3a : OwnL (w3.alloc (.cells #[.string t, .int .i64 0] 56)) w2.heap.size 56 2 isc (.slice a3 L.length c3) L := hO3.below ((Below.refl _ _).alloc (Nat.le_refl _) _)
        have hne3 : ∀ g, (Value.slice a3 L.length c3).ownBlock = some g → w3.heap.size ≠ g := fun g e => by have := (hO3.lt g e).2; omega
        have hlow3 : ∀ g, (Value.slice a3 L.length c3).ownBlock = some g → w.heap.size ≤ g := fun g e => Nat.le_trans c2.size (hO3.lt g e).1
        have c4a : Below w.heap.size w (w3.alloc (.cells #[.string t, .int .i64 0] 56)) := c4.alloc c4.size _
        have hs2 : w2.heap.size ≤ (w3.alloc (.cells #[.string t, .int .i64 0] 56)).heap.size := by have := hb3.size; simp; omega
        refine (insert_hol a3 J c3 w2.heap.size w3.heap.size L (t, 0) #[.string t, .int .i64 0] _ p1 hn hs2 hO3a hX rfl hne3).mono ?_
        rintro e w4 ⟨a4, c4', rfl, hO4, hg4⟩
        have c5 : Below w.heap.size w w4 := c4a.grown hg4 c4a.size (fun r e => hlow3 r e)
        have hLN : (L.take J ++ (t, (0 : Int)) :: L.drop J).length = L.length + 1 := by rw [List.length_append, List.length_take, List.length_cons, List.length_drop]; omega
        have hg0 : gi (L.take J ++ (t, (0 : Int)) :: L.drop J) J = (t, 0) := by
          have hl : (L.take J).length = J := by rw [List.length_take]; omega
          rw [gi_at _ _ (by omega), List.getElem_append_right (by omega)]
          simp [hl]
        rw [← hLN] at hO4 ⊢
        obtain ⟨g, cur, rfl, _, hgB, hg, hcap, _, _, _⟩ := hO4.row (by omega)
        have hAt := (hO4.sl isc_len).1
        have q1 := (at_is' hAt J (by omega)).2
        simp only [Nat.zero_add] at q1
        change _ = some (Value.int .i64 (gi (L.take J ++ (t, (0 : Int)) :: L.drop J) J).2) at q1
        rw [hg0] at q1
        change _ = some (Value.int .i64 0) at q1
        have fz : w4.frozen? ⟨g, J * 2 + 1, none⟩ = false := frozen_of hg _
        have hgw : w.heap.size ≤ g := Nat.le_trans c2.size hgB
        have hup := own_upd hO4 J (by omega) n
        rw [hg0] at hup
        have HTD := Lib.hid (show (L.take J ++ (t, (0 : Int)) :: L.drop J).take J ++ (t, n) :: (L.take J ++ (t, (0 : Int)) :: L.drop J).drop (J + 1) = L.take J ++ (t, n) :: L.drop J by
          have hl : (L.take J).length = J := by rw [List.length_take]; omega
          rw [List.take_left' hl, show L.take J ++ (t, (0 : Int)) :: L.drop J = (L.take J ++ [(t, (0 : Int))]) ++ L.drop J by simp, List.drop_left' (by rw [List.length_append, hl]; rfl)])
        change OwnL _ _ _ _ _ _ ((L.take J ++ (t, (0 : Int)) :: L.drop J).take J ++ (t, n) :: (L.take J ++ (t, (0 : Int)) :: L.drop J).drop (J + 1)) at hup
        rw [HTD.out, hLN] at hup
        have HO := Lib.hid (hup.lower' c2.size)
        have HB := Lib.hid (show Below w.heap.size w (w4.setCell ⟨g, J * 2 + 1, none⟩ (.int .i64 n)) from c5.setCell (p := ⟨g, J * 2 + 1, none⟩) hgw _)
        have hgl := blk_lt hg
        have HLN2 := Lib.hid (show (L.take J ++ (t, n) :: L.drop J).length = L.length + 1 by rw [List.length_append, List.length_take, List.length_cons, List.length_drop]; omega)
        rw [hLN]
        have hJ1 : (J : Int) < (L.length : Int) + 1 := by omega
        clear hO3 hO3a hO4 hX hAt hg hg4 hb1 hb2 hb3 c2 c4 c4a c5 hs2 HK HFD hne3 hlow3 hup hLN hg0 HTD
        have HUN := Lib.hid (show decide (1 ≤ n ∧ n ≤ 1048576) = true from decide_eq_true ⟨n0, n1⟩)
        have hle : ¬ (32 : Int) < (L.length : Int) + 1 := by omega
        go_wp2_with fail
        refine (units_any n _ _ HUN.out).mono ?_
        rintro e w5 ⟨rfl, rfl⟩
        go_wp2
        go_ret2
        exact ⟨_, _, by rw [HLN2.out]; rfl, by rw [HLN2.out]; exact HO.out, HB.out⟩
  · have hne : askE L t n ≠ 0 := by omega
    have HE := Lib.hid (show putE L t n = askE L t n by unfold putE; rw [if_neg hne])
    have HV := Lib.hid (show putV L t n = [] by unfold putV; rw [HE.out, if_neg hne])
    rw [HE.out, HV.out]
    clear hne
    rcases h with h | h
    all_goals
      rw [h] at HK ⊢
      clear h
      go_enter Try.func30, Try.ntmps30
      go_wp2_with fail
      refine HK.out.mono ?_
      rintro e w1 ⟨rfl, hb1⟩
      go_wp2
      go_ret2
      exact ⟨none, 0, rfl, OwnL.nil _ _ _ _ _, hb1⟩
end Go.Proofs.Ytbfgnkakcnhojaa.Co
