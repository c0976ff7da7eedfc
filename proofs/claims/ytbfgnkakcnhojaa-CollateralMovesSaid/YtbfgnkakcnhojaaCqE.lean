/-
  Collateral: the walk of the reference's Put.
-/
import Derived.Test.YtbfgnkakcnhojaaCoX
import Derived.Test.YtbfgnkakcnhojaaCqC
namespace Go.Proofs.Ytbfgnkakcnhojaa.Co
open Go.RowKit Go.Proofs.Ytbfgnkakcnhojaa Go.Proofs.Ytbfgnkakcnhojaa.Ls Go.Proofs.Ytbfgnkakcnhojaa.Kb
open Go.Proofs.Ytbfgnkakcnhojaa.Nm hiding ret_bool ret_int

set_option maxRecDepth 100000 in
set_option maxHeartbeats 4000000 in
theorem rput_any (a : Option Addr) (c : Nat) (L : List (ByteArray × Int)) (t : ByteArray) (n : Int) (w : World) (hn : L.length ≤ 1000) (hZ : SzL L) (ht : t.size ≤ maxLen) (hA : AtL w 2 isc a L) :
    Calls Try.prog 31 #[.slice a L.length c, .string t, .int .i64 n] w fun e w' => ∃ a' c', e = .returned (.tuple #[.slice a' (putV L t n).length c', .int .i64 (putE L t n)]) ∧ OwnL w' w.heap.size 56 2 isc (.slice a' (putV L t n).length c') (putV L t n) ∧ Below w.heap.size w w' := by
  have HK := Lib.hid (rholdings_any a c L w hn hZ hA)
  have HL := Lib.hid hA
  have HT := Lib.hid ht
  clear hA hZ ht
  rcases hb (holB L) with hB | hB
  rotate_left
  · have hae : askE L t n = 8 := by unfold askE; rw [hB]; rfl
    have hne : askE L t n ≠ 0 := by omega
    have HE := Lib.hid (show putE L t n = 8 by rw [show putE L t n = askE L t n by unfold putE; rw [if_neg hne]]; exact hae)
    have HV := Lib.hid (show putV L t n = [] by unfold putV; rw [if_neg (by rw [HE.out]; decide)])
    rw [HE.out, HV.out]
    rw [hB] at HK
    clear hB hae hne
    go_enter Try.func31, Try.ntmps31
    go_wp2_with fail
    refine HK.out.mono ?_
    rintro e w1 ⟨rfl, hb1⟩
    go_wp2
    go_ret2
    exact ⟨none, 0, rfl, OwnL.nil _ _ _ _ _, hb1⟩
  · rw [hB] at HK
    rcases hb (nm t) with h2 | h2
    rotate_left
    · have hae : askE L t n = 2 := by unfold askE; rw [hB, h2]; rfl
      have hne : askE L t n ≠ 0 := by omega
      have HE := Lib.hid (show putE L t n = 2 by rw [show putE L t n = askE L t n by unfold putE; rw [if_neg hne]]; exact hae)
      have HV := Lib.hid (show putV L t n = [] by unfold putV; rw [if_neg (by rw [HE.out]; decide)])
      rw [HE.out, HV.out]
      have H2 := Lib.hid h2
      clear hB h2 hae hne
      go_enter Try.func31, Try.ntmps31
      go_wp2_with fail
      refine HK.out.mono ?_
      rintro e w1 ⟨rfl, hb1⟩
      go_wp2_with fail
      refine (rname_q t _ _ HT.out H2.out).mono ?_
      rintro e w2 ⟨rfl, rfl⟩
      go_wp2
      go_ret2
      exact ⟨none, 0, rfl, OwnL.nil _ _ _ _ _, hb1⟩
    · have H2 := Lib.hid h2
      by_cases h3 : n < 1
      · have hae : askE L t n = 2 := by unfold askE; rw [hB, h2, decide_eq_false (by omega)]; rfl
        have hne : askE L t n ≠ 0 := by omega
        have HE := Lib.hid (show putE L t n = 2 by rw [show putE L t n = askE L t n by unfold putE; rw [if_neg hne]]; exact hae)
        have HV := Lib.hid (show putV L t n = [] by unfold putV; rw [if_neg (by rw [HE.out]; decide)])
        rw [HE.out, HV.out]
        clear hB h2 hae hne
        go_enter Try.func31, Try.ntmps31
        go_wp2_with fail
        refine HK.out.mono ?_
        rintro e w1 ⟨rfl, hb1⟩
        go_wp2_with fail
        refine (rname_q t _ _ HT.out H2.out).mono ?_
        rintro e w2 ⟨rfl, rfl⟩
        go_wp2
        go_ret2
        exact ⟨none, 0, rfl, OwnL.nil _ _ _ _ _, hb1⟩
      · by_cases h4 : 1048576 < n
        · have hae : askE L t n = 2 := by unfold askE; rw [hB, h2, decide_eq_false (by omega)]; rfl
          have hne : askE L t n ≠ 0 := by omega
          have HE := Lib.hid (show putE L t n = 2 by rw [show putE L t n = askE L t n by unfold putE; rw [if_neg hne]]; exact hae)
          have HV := Lib.hid (show putV L t n = [] by unfold putV; rw [if_neg (by rw [HE.out]; decide)])
          rw [HE.out, HV.out]
          clear hB h2 hae hne
          go_enter Try.func31, Try.ntmps31
          go_wp2_with fail
          refine HK.out.mono ?_
          rintro e w1 ⟨rfl, hb1⟩
          go_wp2_with fail
          refine (rname_q t _ _ HT.out H2.out).mono ?_
          rintro e w2 ⟨rfl, rfl⟩
          go_wp2
          go_ret2
          exact ⟨none, 0, rfl, OwnL.nil _ _ _ _ _, hb1⟩
        · have hae : askE L t n = 0 := by unfold askE; rw [hB, h2, decide_eq_true (by omega)]; rfl
          have h32 := holB_len hB
          clear h2
          go_enter Try.func31, Try.ntmps31
          go_wp2_with fail
          refine HK.out.mono ?_
          rintro e w1 ⟨rfl, hb1⟩
          go_wp2_with fail
          refine (rname_q t _ _ HT.out H2.out).mono ?_
          rintro e w2 ⟨rfl, rfl⟩
          go_wp2_with fail
          go_loopw [8, 9, 10, 11] (fun o is i _ wr => ∃ (k : Nat) (oa : Option Addr) (oc : Nat), k ≤ L.length ∧ i = .int .i64 k ∧ is = .bool (ptL L t n k).2 ∧ o = .slice oa (ptL L t n k).1.length oc ∧
            Hid (OwnL wr w.heap.size 56 2 isc (.slice oa (ptL L t n k).1.length oc) (ptL L t n k).1) ∧ Hid (∀ i, i < k → (gi L i).1 = t → (gi L i).2 + n ≤ 1048576) ∧ Below w.heap.size w wr) (fun _ _ i _ _ => L.length - (intOf i).toNat)
          case atStart => exact ⟨0, none, 0, by omega, rfl, rfl, rfl, OwnL.nil _ _ _ _ _, (fun i hi => by omega), hb1⟩
          case round =>
            obtain ⟨k, oa, oc, hk, rfl, rfl, rfl, HO, HU, hbw⟩ := hrel
            rcases Nat.lt_or_ge k L.length with hlt | hge
            · have hki : (k : Int) < L.length := by omega
              have hk0 : (0 : Int) ≤ (k : Int) := by omega
              obtain ⟨lb, lo, rfl, q0, q1⟩ := at_is (HL.out.below hbw) k hlt
              change _ = some (Value.string (gi L k).1) at q0
              change _ = some (Value.int .i64 (gi L k).2) at q1
              have hu := holB_at hB k hlt
              have HLN := Lib.hid (ptL_len L t n k)
              by_cases he : (gi L k).1 = t
              · have heq := eq_yes he
                by_cases hn : 1048576 < (gi L k).2 + n
                · obtain ⟨HE1, HE2⟩ := put_early hae hB hlt he hn
                  have HE1 := Lib.hid HE1
                  have HE2 := Lib.hid HE2
                  clear he hB hae
                  generalize ptL L t n k = pt at *
                  obtain ⟨ls, dn⟩ := pt
                  generalize gi L k = h at *
                  obtain ⟨h1, u⟩ := h
                  dsimp only at q0 q1 heq hu HO HLN
                  have hln := HLN.out
                  dsimp only at hn
                  go_wp2
                  go_ret2
                  rw [HE1.out, HE2.out]
                  exact ⟨none, 0, rfl, OwnL.nil _ _ _ _ _, hbw.alloc hbw.size _⟩
                · have HU1 := Lib.hid (show ∀ i, i < k + 1 → (gi L i).1 = t → (gi L i).2 + n ≤ 1048576 from fun i hi e => by
                    rcases Nat.eq_or_lt_of_le (show i ≤ k by omega) with g | g
                    · subst g; omega
                    · exact HU.out i g e)
                  have HSN := Lib.hid (show ptL L t n (k + 1) = ((ptL L t n k).1 ++ [((gi L k).1, (gi L k).2 + n)], true) by rw [ptL, if_pos he])
                  clear he hB hae
                  generalize ptL L t n k = pt at *
                  obtain ⟨ls, dn⟩ := pt
                  generalize gi L k = h at *
                  obtain ⟨h1, u⟩ := h
                  dsimp only at q0 q1 heq hu HO HLN
                  have hln := HLN.out
                  dsimp only at hn HSN
                  go_wp2_with (at_builtin; refine wpList_append_L (P := Try.prog) (α := ByteArray × Int) rfl _ _ _ rfl 56 (Value.agg #[.string ⟨#[]⟩, .int .i64 0]) 2 24 Try.underlying26 info_hol rfl (by decide) w.heap.size isc (.slice oa ls.length oc) ls (h1, u + n) (wr.heap.size + 1) #[.string h1, .int .i64 (u + n)] (by rfl) (by rfl) (HO.out.below (((Below.refl _ _).alloc (Nat.le_refl _) _).alloc (by simp) _)) ((blk_two wr _ _).2) rfl (isc_len _) (isc_one _) (by unfold maxLen; omega) (by omega) (by have := hbw.size; simp; omega) ?_; intro g9 cap w9 ho9 hg9 hat9; have k9 : Below w.heap.size w w9 := ((hbw.alloc hbw.size _).alloc (by have := hbw.size; simp; omega) _).grown hg9 (by have := hbw.size; simp; omega) (fun j hj => (HO.out.lt j hj).1); have HO9 := Lib.hid ho9; clear ho9 hg9 hat9)
                  go_wp2
                  go_roundw
                  case rel => exact ⟨k + 1, some ⟨g9, 0, none⟩, cap, by omega, by go_num, by rw [HSN.out], by rw [HSN.out]; simp, by unfold Hid; rw [HSN.out]; dsimp only; rw [List.length_append]; exact HO9.out, HU1, k9⟩
                  case measure => simp [intOf]; omega
              · have heq := eq_no he
                have HU1 := Lib.hid (show ∀ i, i < k + 1 → (gi L i).1 = t → (gi L i).2 + n ≤ 1048576 from fun i hi e => by
                  rcases Nat.eq_or_lt_of_le (show i ≤ k by omega) with g | g
                  · subst g; exact absurd e he
                  · exact HU.out i g e)
                rcases hb (ptL L t n k).2 with hd | hd
                all_goals have HD := Lib.hid hd
                · have HSN := Lib.hid (show ptL L t n (k + 1) = ((ptL L t n k).1 ++ [gi L k], true) by rw [ptL, if_neg he, if_neg (fun e => by rw [hd] at e; cases e.1), hd])
                  clear hd
                  clear he hB hae
                  generalize ptL L t n k = pt at *
                  obtain ⟨ls, dn⟩ := pt
                  generalize gi L k = h at *
                  obtain ⟨h1, u⟩ := h
                  dsimp only at q0 q1 heq hu HO HLN
                  have hln := HLN.out
                  try dsimp only at HSN
                  obtain rfl : dn = true := HD.out
                  clear HD
                  go_wp2_with (at_builtin; refine wpList_append_L (P := Try.prog) (α := ByteArray × Int) rfl _ _ _ rfl 56 (Value.agg #[.string ⟨#[]⟩, .int .i64 0]) 2 24 Try.underlying26 info_hol rfl (by decide) w.heap.size isc (.slice oa ls.length oc) ls (h1, u) (wr.heap.size + 1) #[.string h1, .int .i64 u] (by rfl) (by rfl) (HO.out.below (((Below.refl _ _).alloc (Nat.le_refl _) _).alloc (by simp) _)) ((blk_two wr _ _).2) rfl (isc_len _) (isc_one _) (by unfold maxLen; omega) (by omega) (by have := hbw.size; simp; omega) ?_; intro g9 cap w9 ho9 hg9 hat9; have k9 : Below w.heap.size w w9 := ((hbw.alloc hbw.size _).alloc (by have := hbw.size; simp; omega) _).grown hg9 (by have := hbw.size; simp; omega) (fun j hj => (HO.out.lt j hj).1); have HO9 := Lib.hid ho9; clear ho9 hg9 hat9)
                  go_wp2
                  go_roundw
                  case rel => exact ⟨k + 1, some ⟨g9, 0, none⟩, cap, by omega, by go_num, by rw [HSN.out], by rw [HSN.out]; simp, by unfold Hid; rw [HSN.out]; dsimp only; rw [List.length_append]; exact HO9.out, HU1, k9⟩
                  case measure => simp [intOf]; omega
                · rcases hb (lt (gi L k).1 t) with hl | hl
                  · have hl2 : lt t (gi L k).1 = false := lt_asymm hl
                    have HSN := Lib.hid (show ptL L t n (k + 1) = ((ptL L t n k).1 ++ [gi L k], false) by rw [ptL, if_neg he, if_neg (fun e => by rw [hl2] at e; cases e.2), hd])
                    have hbl : Op.bytesLess (gi L k).1.toList t.toList = true := hl
                    clear hl2 hl hd
                    clear he hB hae
                    generalize ptL L t n k = pt at *
                    obtain ⟨ls, dn⟩ := pt
                    generalize gi L k = h at *
                    obtain ⟨h1, u⟩ := h
                    dsimp only at q0 q1 heq hu HO HLN
                    have hln := HLN.out
                    try dsimp only at HSN
                    dsimp only at hbl
                    obtain rfl : dn = false := HD.out
                    clear HD
                    go_wp2_with (at_builtin; refine wpList_append_L (P := Try.prog) (α := ByteArray × Int) rfl _ _ _ rfl 56 (Value.agg #[.string ⟨#[]⟩, .int .i64 0]) 2 24 Try.underlying26 info_hol rfl (by decide) w.heap.size isc (.slice oa ls.length oc) ls (h1, u) (wr.heap.size + 1) #[.string h1, .int .i64 u] (by rfl) (by rfl) (HO.out.below (((Below.refl _ _).alloc (Nat.le_refl _) _).alloc (by simp) _)) ((blk_two wr _ _).2) rfl (isc_len _) (isc_one _) (by unfold maxLen; omega) (by omega) (by have := hbw.size; simp; omega) ?_; intro g9 cap w9 ho9 hg9 hat9; have k9 : Below w.heap.size w w9 := ((hbw.alloc hbw.size _).alloc (by have := hbw.size; simp; omega) _).grown hg9 (by have := hbw.size; simp; omega) (fun j hj => (HO.out.lt j hj).1); have HO9 := Lib.hid ho9; clear ho9 hg9 hat9)
                    go_wp2
                    go_roundw
                    case rel => exact ⟨k + 1, some ⟨g9, 0, none⟩, cap, by omega, by go_num, by rw [HSN.out], by rw [HSN.out]; simp, by unfold Hid; rw [HSN.out]; dsimp only; rw [List.length_append]; exact HO9.out, HU1, k9⟩
                    case measure => simp [intOf]; omega
                  · have hl2 : lt t (gi L k).1 = true := lt_other he hl
                    have HSN := Lib.hid (show ptL L t n (k + 1) = ((ptL L t n k).1 ++ [(t, n)] ++ [gi L k], true) by rw [ptL, if_neg he, if_pos ⟨hd, hl2⟩])
                    have hbl : Op.bytesLess (gi L k).1.toList t.toList = false := hl
                    clear hl2 hl hd
                    clear he hB hae
                    generalize ptL L t n k = pt at *
                    obtain ⟨ls, dn⟩ := pt
                    generalize gi L k = h at *
                    obtain ⟨h1, u⟩ := h
                    dsimp only at q0 q1 heq hu HO HLN
                    have hln := HLN.out
                    try dsimp only at HSN
                    dsimp only at hbl
                    obtain rfl : dn = false := HD.out
                    clear HD
                    go_wp2_with (first | (at_builtin; refine wpList_append_L (P := Try.prog) (α := ByteArray × Int) rfl _ _ _ rfl 56 (Value.agg #[.string ⟨#[]⟩, .int .i64 0]) 2 24 Try.underlying26 info_hol rfl (by decide) w.heap.size isc (.slice (some ⟨g9, 0, none⟩) (ls.length + 1) cap) (ls ++ [(t, n)]) (h1, u) w9.heap.size #[.string h1, .int .i64 u] (by rfl) (by rfl) (HO9.out.below ((Below.refl _ _).alloc (Nat.le_refl _) _)) (blk_new w9 _) rfl (isc_len _) (isc_one _) (by rw [List.length_append]; simp; unfold maxLen; omega) (by rw [List.length_append]; simp; omega) (by have := k9.size; simp; omega) ?_; intro g8 cap8 w8 ho8 hg8 hat8; have k8 : Below w.heap.size w w8 := (k9.alloc k9.size _).grown hg8 (by have := k9.size; simp; omega) (fun j hj => (HO9.out.lt j hj).1); have HO8 := Lib.hid ho8; clear ho8 hg8 hat8) | (at_builtin; refine wpList_append_L (P := Try.prog) (α := ByteArray × Int) rfl _ _ _ rfl 56 (Value.agg #[.string ⟨#[]⟩, .int .i64 0]) 2 24 Try.underlying26 info_hol rfl (by decide) w.heap.size isc (.slice oa ls.length oc) ls (t, n) (wr.heap.size + 1) #[.string t, .int .i64 n] (by rfl) (by rfl) (HO.out.below (((Below.refl _ _).alloc (Nat.le_refl _) _).alloc (by simp) _)) ((blk_two wr _ _).2) rfl (isc_len _) (isc_one _) (by unfold maxLen; omega) (by omega) (by have := hbw.size; simp; omega) ?_; intro g9 cap w9 ho9 hg9 hat9; have k9 : Below w.heap.size w w9 := ((hbw.alloc hbw.size _).alloc (by have := hbw.size; simp; omega) _).grown hg9 (by have := hbw.size; simp; omega) (fun j hj => (HO.out.lt j hj).1); have HO9 := Lib.hid ho9; have x0 : w9.cell? ⟨wr.heap.size, 0, none⟩ = some (.string h1) := cell_of (far_own hg9 (blk_past _ _ (blk_new wr _)) (fun e => by have := (HO.out.lt _ e).2; omega)) 0 _ rfl; have x1 : w9.cell? ⟨wr.heap.size, 1, none⟩ = some (.int .i64 u) := cell_of (far_own hg9 (blk_past _ _ (blk_new wr _)) (fun e => by have := (HO.out.lt _ e).2; omega)) 1 _ rfl; clear ho9 hg9 hat9))
                    go_wp2
                    go_roundw
                    case rel => exact ⟨k + 1, some ⟨g8, 0, none⟩, cap8, by omega, by go_num, by rw [HSN.out], by rw [HSN.out]; simp, by unfold Hid; rw [HSN.out]; dsimp only; rw [List.length_append]; exact HO8.out, HU1, k8⟩
                    case measure => simp [intOf]; omega
            · obtain rfl : k = L.length := by omega
              have HLN := Lib.hid (ptL_len L t n L.length)
              have HEE := Lib.hid (put_end hae hB HU.out)
              have HPE := Lib.hid (show ptE L t n = if (ptL L t n L.length).2 then (ptL L t n L.length).1 else (ptL L t n L.length).1 ++ [(t, n)] from rfl)
              clear hae hB HU
              generalize ptL L t n L.length = pt at *
              obtain ⟨ls, dn⟩ := pt
              dsimp only at HO HPE HLN
              have hln := HLN.out
              rcases hb dn with rfl | rfl
              · rw [if_pos rfl] at HPE
                rw [HPE.out] at HEE
                rcases HEE.out with ⟨e1, e2, e3⟩ | ⟨e1, e2, e3⟩
                all_goals
                  have HE1 := Lib.hid e2
                  have HE2 := Lib.hid e3
                  have e1' : (32 : Int) < (ls.length : Int) ∨ ¬ (32 : Int) < (ls.length : Int) := by omega
                  clear e2 e3 HEE HPE
                · have e2 : (32 : Int) < (ls.length : Int) := by omega
                  go_wp2
                  go_ret2
                  rw [HE1.out, HE2.out]
                  exact ⟨none, 0, rfl, OwnL.nil _ _ _ _ _, hbw⟩
                · have e2 : ¬ (32 : Int) < (ls.length : Int) := by omega
                  go_wp2
                  go_ret2
                  rw [HE1.out, HE2.out]
                  exact ⟨oa, oc, rfl, HO.out, hbw⟩
              · rw [if_neg (by decide)] at HPE
                rw [HPE.out] at HEE
                rw [List.length_append] at HEE
                change Hid ((32 < ls.length + 1 ∧ putE L t n = 4 ∧ putV L t n = []) ∨ (ls.length + 1 ≤ 32 ∧ putE L t n = 0 ∧ putV L t n = ls ++ [(t, n)])) at HEE
                rcases HEE.out with ⟨e1, e2, e3⟩ | ⟨e1, e2, e3⟩
                all_goals
                  have HE1 := Lib.hid e2
                  have HE2 := Lib.hid e3
                  clear e2 e3 HEE HPE
                · have e2 : (32 : Int) < (ls.length : Int) + 1 := by omega
                  go_wp2_with (at_builtin; refine wpList_append_L (P := Try.prog) (α := ByteArray × Int) rfl _ _ _ rfl 56 (Value.agg #[.string ⟨#[]⟩, .int .i64 0]) 2 24 Try.underlying26 info_hol rfl (by decide) w.heap.size isc (.slice oa ls.length oc) ls (t, n) wr.heap.size #[.string t, .int .i64 n] (by rfl) (by rfl) (HO.out.below ((Below.refl _ _).alloc (Nat.le_refl _) _)) (blk_new wr _) rfl (isc_len _) (isc_one _) (by unfold maxLen; omega) (by omega) (by have := hbw.size; simp; omega) ?_; intro g9 cap w9 ho9 hg9 hat9; have k9 : Below w.heap.size w w9 := (hbw.alloc hbw.size _).grown hg9 (by have := hbw.size; simp; omega) (fun j hj => (HO.out.lt j hj).1); have HO9 := Lib.hid ho9; clear ho9 hg9 hat9)
                  go_wp2
                  go_ret2
                  rw [HE1.out, HE2.out]
                  exact ⟨none, 0, rfl, OwnL.nil _ _ _ _ _, k9⟩
                · have e2 : ¬ (32 : Int) < (ls.length : Int) + 1 := by omega
                  go_wp2_with (at_builtin; refine wpList_append_L (P := Try.prog) (α := ByteArray × Int) rfl _ _ _ rfl 56 (Value.agg #[.string ⟨#[]⟩, .int .i64 0]) 2 24 Try.underlying26 info_hol rfl (by decide) w.heap.size isc (.slice oa ls.length oc) ls (t, n) wr.heap.size #[.string t, .int .i64 n] (by rfl) (by rfl) (HO.out.below ((Below.refl _ _).alloc (Nat.le_refl _) _)) (blk_new wr _) rfl (isc_len _) (isc_one _) (by unfold maxLen; omega) (by omega) (by have := hbw.size; simp; omega) ?_; intro g9 cap w9 ho9 hg9 hat9; have k9 : Below w.heap.size w w9 := (hbw.alloc hbw.size _).grown hg9 (by have := hbw.size; simp; omega) (fun j hj => (HO.out.lt j hj).1); have HO9 := Lib.hid ho9; clear ho9 hg9 hat9)
                  go_wp2
                  go_ret2
                  rw [HE1.out, HE2.out, List.length_append]
                  exact ⟨some ⟨g9, 0, none⟩, cap, rfl, HO9.out, k9⟩
end Go.Proofs.Ytbfgnkakcnhojaa.Co

