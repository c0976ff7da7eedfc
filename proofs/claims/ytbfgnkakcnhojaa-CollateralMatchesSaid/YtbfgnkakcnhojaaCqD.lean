/-
  Collateral: the walk of the reference's Take.
-/
import Derived.Test.YtbfgnkakcnhojaaCoX
import Derived.Test.YtbfgnkakcnhojaaCqC
namespace Go.Proofs.Ytbfgnkakcnhojaa.Co
open Go.RowKit Go.Proofs.Ytbfgnkakcnhojaa Go.Proofs.Ytbfgnkakcnhojaa.Ls Go.Proofs.Ytbfgnkakcnhojaa.Kb
open Go.Proofs.Ytbfgnkakcnhojaa.Nm hiding ret_bool ret_int

set_option maxRecDepth 100000 in
set_option maxHeartbeats 4000000 in
theorem rtake_any (a : Option Addr) (c : Nat) (L : List (ByteArray × Int)) (t : ByteArray) (n : Int) (w : World) (hn : L.length ≤ 1000) (hZ : SzL L) (ht : t.size ≤ maxLen) (hA : AtL w 2 isc a L) :
    Calls Try.prog 32 #[.slice a L.length c, .string t, .int .i64 n] w fun e w' => ∃ a' c', e = .returned (.tuple #[.slice a' (takV L t n).length c', .int .i64 (takE L t n)]) ∧ OwnL w' w.heap.size 56 2 isc (.slice a' (takV L t n).length c') (takV L t n) ∧ Below w.heap.size w w' := by
  have HK := Lib.hid (rholdings_any a c L w hn hZ hA)
  have HL := Lib.hid hA
  have HT := Lib.hid ht
  clear hA hZ ht
  rcases hb (holB L) with hB | hB
  rotate_left
  · have hae : askE L t n = 8 := by unfold askE; rw [hB]; rfl
    have hne : askE L t n ≠ 0 := by omega
    have HE := Lib.hid (show takE L t n = 8 by rw [show takE L t n = askE L t n by unfold takE; rw [if_neg hne]]; exact hae)
    have HV := Lib.hid (show takV L t n = [] by unfold takV; rw [if_neg (by rw [HE.out]; decide)])
    rw [HE.out, HV.out]
    rw [hB] at HK
    clear hB hae hne
    go_enter Try.func32, Try.ntmps32
    go_wp2_with fail
    refine HK.out.mono ?_
    rintro e w1 ⟨rfl, hb1⟩
    go_wp2
    go_ret2
    exact ⟨none, 0, rfl, OwnL.nil _ _ _ _ _, hb1⟩
  · rw [hB] at HK
    rcases hb (nm t) with h2 | h2
    rotate_left
    · have hae : askE L t n = 2 := by unfold askE; rw [hB, h2]; rfl
      have hne : askE L t n ≠ 0 := by omega
      have HE := Lib.hid (show takE L t n = 2 by rw [show takE L t n = askE L t n by unfold takE; rw [if_neg hne]]; exact hae)
      have HV := Lib.hid (show takV L t n = [] by unfold takV; rw [if_neg (by rw [HE.out]; decide)])
      rw [HE.out, HV.out]
      have H2 := Lib.hid h2
      clear hB h2 hae hne
      go_enter Try.func32, Try.ntmps32
      go_wp2_with fail
      refine HK.out.mono ?_
      rintro e w1 ⟨rfl, hb1⟩
      go_wp2_with fail
      refine (rname_q t _ _ HT.out H2.out).mono ?_
      rintro e w2 ⟨rfl, rfl⟩
      go_wp2
      go_ret2
      exact ⟨none, 0, rfl, OwnL.nil _ _ _ _ _, hb1⟩
    · have H2 := Lib.hid h2
      by_cases h3 : n < 1
      · have hae : askE L t n = 2 := by unfold askE; rw [hB, h2, decide_eq_false (by omega)]; rfl
        have hne : askE L t n ≠ 0 := by omega
        have HE := Lib.hid (show takE L t n = 2 by rw [show takE L t n = askE L t n by unfold takE; rw [if_neg hne]]; exact hae)
        have HV := Lib.hid (show takV L t n = [] by unfold takV; rw [if_neg (by rw [HE.out]; decide)])
        rw [HE.out, HV.out]
        clear hB h2 hae hne
        go_enter Try.func32, Try.ntmps32
        go_wp2_with fail
        refine HK.out.mono ?_
        rintro e w1 ⟨rfl, hb1⟩
        go_wp2_with fail
        refine (rname_q t _ _ HT.out H2.out).mono ?_
        rintro e w2 ⟨rfl, rfl⟩
        go_wp2
        go_ret2
        exact ⟨none, 0, rfl, OwnL.nil _ _ _ _ _, hb1⟩
      · by_cases h4 : 1048576 < n
        · have hae : askE L t n = 2 := by unfold askE; rw [hB, h2, decide_eq_false (by omega)]; rfl
          have hne : askE L t n ≠ 0 := by omega
          have HE := Lib.hid (show takE L t n = 2 by rw [show takE L t n = askE L t n by unfold takE; rw [if_neg hne]]; exact hae)
          have HV := Lib.hid (show takV L t n = [] by unfold takV; rw [if_neg (by rw [HE.out]; decide)])
          rw [HE.out, HV.out]
          clear hB h2 hae hne
          go_enter Try.func32, Try.ntmps32
          go_wp2_with fail
          refine HK.out.mono ?_
          rintro e w1 ⟨rfl, hb1⟩
          go_wp2_with fail
          refine (rname_q t _ _ HT.out H2.out).mono ?_
          rintro e w2 ⟨rfl, rfl⟩
          go_wp2
          go_ret2
          exact ⟨none, 0, rfl, OwnL.nil _ _ _ _ _, hb1⟩
        · have hae : askE L t n = 0 := by unfold askE; rw [hB, h2, decide_eq_true (by omega)]; rfl
          have h32 := holB_len hB
          clear h2
          go_enter Try.func32, Try.ntmps32
          go_wp2_with fail
          refine HK.out.mono ?_
          rintro e w1 ⟨rfl, hb1⟩
          go_wp2_with fail
          refine (rname_q t _ _ HT.out H2.out).mono ?_
          rintro e w2 ⟨rfl, rfl⟩
          go_wp2_with fail
          go_loopw [8, 9, 10, 11] (fun o is i _ wr => ∃ (k : Nat) (oa : Option Addr) (oc : Nat), k ≤ L.length ∧ i = .int .i64 k ∧ is = .bool (isK L t k) ∧ o = .slice oa (tkL L t n k).length oc ∧
            Hid (OwnL wr w.heap.size 56 2 isc (.slice oa (tkL L t n k).length oc) (tkL L t n k)) ∧ Hid (∀ i, i < k → (gi L i).1 = t → n ≤ (gi L i).2) ∧ Below w.heap.size w wr) (fun _ _ i _ _ => L.length - (intOf i).toNat)
          case atStart => exact ⟨0, none, 0, by omega, rfl, rfl, rfl, OwnL.nil _ _ _ _ _, (fun i hi => by omega), hb1⟩
          case round =>
            obtain ⟨k, oa, oc, hk, rfl, rfl, rfl, HO, HU, hbw⟩ := hrel
            rcases Nat.lt_or_ge k L.length with hlt | hge
            · have hki : (k : Int) < L.length := by omega
              have hk0 : (0 : Int) ≤ (k : Int) := by omega
              obtain ⟨lb, lo, rfl, q0, q1⟩ := at_is (HL.out.below hbw) k hlt
              change _ = some (Value.string (gi L k).1) at q0
              change _ = some (Value.int .i64 (gi L k).2) at q1
              have hu := holB_at hB k hlt
              have HLN := Lib.hid (tkL_len L t n k)
              by_cases he : (gi L k).1 = t
              · have heq := eq_yes he
                have HSI := Lib.hid (show isK L t (k + 1) = true by unfold isK; rw [if_pos he])
                by_cases hn : (gi L k).2 - n < 0
                · obtain ⟨HE1, HE2⟩ := take_early hae hB hlt he (by omega)
                  have HE1 := Lib.hid HE1
                  have HE2 := Lib.hid HE2
                  clear he hB hae
                  generalize tkL L t n k = ls at *
                  generalize isK L t k = ik at *
                  generalize gi L k = h at *
                  obtain ⟨h1, u⟩ := h
                  dsimp only at q0 q1 heq hu
                  dsimp only at hn
                  go_wp2
                  go_ret2
                  rw [HE1.out, HE2.out]
                  exact ⟨none, 0, rfl, OwnL.nil _ _ _ _ _, hbw.alloc hbw.size _⟩
                · have HU1 := Lib.hid (show ∀ i, i < k + 1 → (gi L i).1 = t → n ≤ (gi L i).2 from fun i hi e => by
                    rcases Nat.eq_or_lt_of_le (show i ≤ k by omega) with g | g
                    · subst g; omega
                    · exact HU.out i g e)
                  by_cases hp : 0 < (gi L k).2 - n
                  · have HSN := Lib.hid (show tkL L t n (k + 1) = tkL L t n k ++ [((gi L k).1, (gi L k).2 - n)] by rw [tkL, if_pos he, if_pos hp])
                    clear he hB hae
                    generalize tkL L t n k = ls at *
                    generalize isK L t k = ik at *
                    generalize gi L k = h at *
                    obtain ⟨h1, u⟩ := h
                    dsimp only at q0 q1 heq hu
                    dsimp only at HSN hn hp
                    have hln := HLN.out
                    go_wp2_with (at_builtin; refine wpList_append_L (P := Try.prog) (α := ByteArray × Int) rfl _ _ _ rfl 56 (Value.agg #[.string ⟨#[]⟩, .int .i64 0]) 2 24 Try.underlying26 info_hol rfl (by decide) w.heap.size isc (.slice oa ls.length oc) ls (h1, u - n) (wr.heap.size + 1) #[.string h1, .int .i64 (u - n)] (by rfl) (by rfl) (HO.out.below (((Below.refl _ _).alloc (Nat.le_refl _) _).alloc (by simp) _)) ((blk_two wr _ _).2) rfl (isc_len _) (isc_one _) (by unfold maxLen; omega) (by omega) (by have := hbw.size; simp; omega) ?_; intro g9 cap w9 ho9 hg9 hat9)
                    have k9 : Below w.heap.size w w9 := ((hbw.alloc hbw.size _).alloc (by have := hbw.size; simp; omega) _).grown hg9 (by have := hbw.size; simp; omega) (fun j hj => (HO.out.lt j hj).1)
                    have HO9 := Lib.hid ho9
                    clear ho9 hg9 hat9 hln
                    go_wp2
                    go_roundw
                    case rel => exact ⟨k + 1, some ⟨g9, 0, none⟩, cap, by omega, by go_num, by rw [HSI.out], by rw [HSN.out, List.length_append]; rfl, by unfold Hid; rw [HSN.out, List.length_append]; exact HO9.out, HU1, k9⟩
                    case measure => simp [intOf]; omega
                  · have HSN := Lib.hid (show tkL L t n (k + 1) = tkL L t n k by rw [tkL, if_pos he, if_neg hp])
                    clear he hB hae
                    generalize tkL L t n k = ls at *
                    generalize isK L t k = ik at *
                    generalize gi L k = h at *
                    obtain ⟨h1, u⟩ := h
                    dsimp only at q0 q1 heq hu
                    dsimp only at hn hp
                    go_wp2
                    go_roundw
                    case rel => exact ⟨k + 1, oa, oc, by omega, by go_num, by rw [HSI.out], by rw [HSN.out], by rw [HSN.out]; exact HO.out.below ((Below.refl _ _).alloc (Nat.le_refl _) _), HU1, hbw.alloc hbw.size _⟩
                    case measure => simp [intOf]; omega
              · have heq := eq_no he
                have HSI := Lib.hid (show isK L t (k + 1) = isK L t k by rw [isK, if_neg he])
                have HSN := Lib.hid (show tkL L t n (k + 1) = tkL L t n k ++ [gi L k] by rw [tkL, if_neg he])
                have HU1 := Lib.hid (show ∀ i, i < k + 1 → (gi L i).1 = t → n ≤ (gi L i).2 from fun i hi e => by
                  rcases Nat.eq_or_lt_of_le (show i ≤ k by omega) with g | g
                  · subst g; exact absurd e he
                  · exact HU.out i g e)
                clear he hB hae
                generalize tkL L t n k = ls at *
                generalize isK L t k = ik at *
                generalize gi L k = h at *
                obtain ⟨h1, u⟩ := h
                dsimp only at q0 q1 heq hu
                try dsimp only at HSN
                have hln := HLN.out
                go_wp2_with (at_builtin; refine wpList_append_L (P := Try.prog) (α := ByteArray × Int) rfl _ _ _ rfl 56 (Value.agg #[.string ⟨#[]⟩, .int .i64 0]) 2 24 Try.underlying26 info_hol rfl (by decide) w.heap.size isc (.slice oa ls.length oc) ls (h1, u) (wr.heap.size + 1) #[.string h1, .int .i64 (u)] (by rfl) (by rfl) (HO.out.below (((Below.refl _ _).alloc (Nat.le_refl _) _).alloc (by simp) _)) ((blk_two wr _ _).2) rfl (isc_len _) (isc_one _) (by unfold maxLen; omega) (by omega) (by have := hbw.size; simp; omega) ?_; intro g9 cap w9 ho9 hg9 hat9)
                have k9 : Below w.heap.size w w9 := ((hbw.alloc hbw.size _).alloc (by have := hbw.size; simp; omega) _).grown hg9 (by have := hbw.size; simp; omega) (fun j hj => (HO.out.lt j hj).1)
                have HO9 := Lib.hid ho9
                clear ho9 hg9 hat9 hln
                go_wp2
                go_roundw
                case rel => exact ⟨k + 1, some ⟨g9, 0, none⟩, cap, by omega, by go_num, by rw [HSI.out], by rw [HSN.out, List.length_append]; rfl, by unfold Hid; rw [HSN.out, List.length_append]; exact HO9.out, HU1, k9⟩
                case measure => simp [intOf]; omega
            · obtain rfl : k = L.length := by omega
              rcases take_end hae hB HU.out with ⟨e1, e2, e3⟩ | ⟨e1, e2, e3⟩
              · rw [e1]
                have HE1 := Lib.hid e2
                have HE2 := Lib.hid e3
                clear e1 e2 e3 hae hB
                go_wp2
                go_ret2
                rw [HE1.out, HE2.out]
                exact ⟨none, 0, rfl, OwnL.nil _ _ _ _ _, hbw⟩
              · rw [e1]
                have HE1 := Lib.hid e2
                have HE2 := Lib.hid e3
                clear e1 e2 e3 hae hB
                generalize tkL L t n L.length = ls at *
                go_wp2
                go_ret2
                rw [HE1.out, HE2.out]
                exact ⟨oa, oc, rfl, HO.out, hbw⟩
end Go.Proofs.Ytbfgnkakcnhojaa.Co

