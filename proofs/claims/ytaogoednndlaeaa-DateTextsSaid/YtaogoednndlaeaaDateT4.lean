/-
  The walks of the date reference: Text, Parse; and the law DateTexts.
-/
import Derived.Test.YtaogoednndlaeaaDateT3
import Derived.RegionTactic
import Derived.ChangeAlike
import Derived.StillTailTactics
namespace Go.Proofs.Ytaogoednndlaeaa.Dt
open Go.RowKit Go.Proofs.Ytaogoednndlaeaa

theorem ret_str {a b : ByteArray} (h : a = b) : Ending.returned (.tuple #[.string a, .int .i64 0]) = .returned (.tuple #[.string b, .int .i64 0]) := by rw [h]
theorem fig_at (n : Int) (many : Nat) (S : ByteArray) (w : World) (h0 : 0 ≤ n) (h1 : n ≤ 9999) (hm : many ≤ 4) (hS : ⟨(digs many n).toArray⟩ = S) :
    Calls Try.prog 36 #[.int .i64 n, .int .i64 many] w fun e w' => e = .returned (.string S) ∧ Below w.heap.size w w' := by
  subst hS
  exact figures_any n many w h0 h1 hm
theorem fig_mk (n : Int) (many : Nat) : ∃ S : ByteArray, ⟨(digs many n).toArray⟩ = S ∧ S.size = many := by
  refine ⟨_, rfl, ?_⟩
  show (digs many n).toArray.size = many
  rw [List.size_toArray, digs_length]
theorem bt0 {B : Nat} {a b c : World} (h : Below B a b) (k : Below b.heap.size b c) (hB : B ≤ a.heap.size) : Below B a c := h.trans (k.mono (Nat.le_trans hB h.size))

set_option maxRecDepth 100000 in
set_option maxHeartbeats 1000000 in
theorem rtext_yes (y m d n : Int) (w : World) (hD : IsDate y m d n) (hn : n ≤ 99999) :
    Calls Try.prog 25 #[.int .i64 n] w fun e w' => e = .returned (.tuple #[.string ⟨(textL y m d).toArray⟩, .int .i64 0]) ∧ Below w.heap.size w w' := by
  have hd := hD
  obtain ⟨a1, a2, a3, a4, a5, a6, a7⟩ := hd
  have hml := mlen_bd y m
  have HD := Lib.hid hD
  clear a7 hD
  obtain ⟨F, hF, zF⟩ := fig_mk y 4
  obtain ⟨G, hG, zG⟩ := fig_mk m 2
  obtain ⟨K, hK, zK⟩ := fig_mk d 2
  have HF := Lib.hid hF
  have HG := Lib.hid hG
  have HK := Lib.hid hK
  have z1 : F.size ≤ 4 := by omega
  have z2 : G.size ≤ 2 := by omega
  have z3 : K.size ≤ 2 := by omega
  clear hF hG hK zF zG zK
  go_enter Try.func25, Try.ntmps25
  go_wp2_with fail
  refine (rparts_yes y m d n _ HD.out hn).mono ?_
  rintro e w' ⟨rfl, rfl⟩
  go_wp2_with fail
  refine (fig_at y 4 F _ (by omega) (by omega) (by omega) HF.out).mono ?_
  rintro e w1 ⟨rfl, c1⟩
  go_wp2_with fail
  refine (fig_at m 2 G _ (by omega) (by omega) (by omega) HG.out).mono ?_
  rintro e w2 ⟨rfl, b2⟩
  have c2 := bt0 c1 b2 (Nat.le_refl _)
  go_wp2_with fail
  refine (fig_at d 2 K _ (by omega) (by omega) (by omega) HK.out).mono ?_
  rintro e w3 ⟨rfl, b3⟩
  have c3 := bt0 c2 b3 (Nat.le_refl _)
  have HS : Hid (F ++ ⟨#[45]⟩ ++ G ++ ⟨#[45]⟩ ++ K = ⟨(textL y m d).toArray⟩) := by
    have e : (⟨#[45]⟩ : ByteArray) = ⟨[45].toArray⟩ := rfl
    rw [← HF.out, ← HG.out, ← HK.out, e, mk_append, mk_append, mk_append, mk_append]
    exact rfl
  go_wp2
  go_ret2
  exact ⟨ret_str HS.out, c3⟩

theorem rtext_no (n : Int) (w : World) (h : n < 0 ∨ 99999 < n) :
    Calls Try.prog 25 #[.int .i64 n] w fun e w' => e = .returned (.tuple #[.string ⟨#[]⟩, .int .i64 2]) ∧ w = w' := by
  have H := Lib.hid h
  clear h
  go_enter Try.func25, Try.ntmps25
  go_wp2_with fail
  refine (rparts_no n _ H.out).mono ?_
  rintro e w1 ⟨rfl, rfl⟩
  go_wp2
  go_ret2
  exact ⟨rfl, rfl⟩

/-! ### Parse of the reference -/
/-- is the byte at a place one that may stand there? -/
def okP (l : List UInt8) (j : Nat) : Bool := if j = 4 ∨ j = 7 then l.getD j 0 == 45 else isD (l.getD j 0)
/-- the three numbers behind k bytes -/
def vK (l : List UInt8) (k : Nat) : Nat → Int
  | 0 => val (l.take (min k 4))
  | 1 => val ((l.drop 5).take (min (k - 5) 2))
  | _ => val ((l.drop 8).take (k - 8))
def atK (k : Nat) : Int := if k ≤ 4 then 0 else if k ≤ 7 then 1 else 2

theorem ten {l : List UInt8} (h : l.length = 10) : ∃ c0 c1 c2 c3 c4 c5 c6 c7 c8 c9, l = [c0, c1, c2, c3, c4, c5, c6, c7, c8, c9] := by
  match l, h with
  | [c0, c1, c2, c3, c4, c5, c6, c7, c8, c9], _ => exact ⟨c0, c1, c2, c3, c4, c5, c6, c7, c8, c9, rfl⟩

theorem frm_all {l : List UInt8} (h : l.length = 10) : frm l = true ↔ ∀ j, j < 10 → okP l j = true := by
  obtain ⟨c0, c1, c2, c3, c4, c5, c6, c7, c8, c9, rfl⟩ := ten h
  constructor
  · intro hf j hj
    simp [frm, numB] at hf
    rcases (show j = 0 ∨ j = 1 ∨ j = 2 ∨ j = 3 ∨ j = 4 ∨ j = 5 ∨ j = 6 ∨ j = 7 ∨ j = 8 ∨ j = 9 by omega) with rfl | rfl | rfl | rfl | rfl | rfl | rfl | rfl | rfl | rfl <;> simp [okP, hf]
  · intro hj
    have k0 := hj 0 (by omega)
    have k1 := hj 1 (by omega)
    have k2 := hj 2 (by omega)
    have k3 := hj 3 (by omega)
    have k4 := hj 4 (by omega)
    have k5 := hj 5 (by omega)
    have k6 := hj 6 (by omega)
    have k7 := hj 7 (by omega)
    have k8 := hj 8 (by omega)
    have k9 := hj 9 (by omega)
    simp [okP] at k0 k1 k2 k3 k4 k5 k6 k7 k8 k9
    simp [frm, numB, k0, k1, k2, k3, k4, k5, k6, k7, k8, k9]

/-- what one round does to the three numbers -/
theorem vK_step {l : List UInt8} (h : l.length = 10) (k : Nat) (hk : k < 10) :
    (k < 4 → vK l (k + 1) 0 = 10 * vK l k 0 + ((l.getD k 0).toNat : Int) - 48 ∧ vK l (k + 1) 1 = vK l k 1 ∧ vK l (k + 1) 2 = vK l k 2) ∧
    (k = 4 ∨ k = 7 → vK l (k + 1) 0 = vK l k 0 ∧ vK l (k + 1) 1 = vK l k 1 ∧ vK l (k + 1) 2 = vK l k 2) ∧
    (k = 5 ∨ k = 6 → vK l (k + 1) 0 = vK l k 0 ∧ vK l (k + 1) 1 = 10 * vK l k 1 + ((l.getD k 0).toNat : Int) - 48 ∧ vK l (k + 1) 2 = vK l k 2) ∧
    (k = 8 ∨ k = 9 → vK l (k + 1) 0 = vK l k 0 ∧ vK l (k + 1) 1 = vK l k 1 ∧ vK l (k + 1) 2 = 10 * vK l k 2 + ((l.getD k 0).toNat : Int) - 48) := by
  obtain ⟨c0, c1, c2, c3, c4, c5, c6, c7, c8, c9, rfl⟩ := ten h
  rcases (show k = 0 ∨ k = 1 ∨ k = 2 ∨ k = 3 ∨ k = 4 ∨ k = 5 ∨ k = 6 ∨ k = 7 ∨ k = 8 ∨ k = 9 by omega) with rfl | rfl | rfl | rfl | rfl | rfl | rfl | rfl | rfl | rfl <;> simp [vK, val] <;> omega

theorem vK_bd {l : List UInt8} (h : l.length = 10) (k : Nat) (hk : k ≤ 10) (ho : ∀ j, j < k → okP l j = true) (i : Nat) : 0 ≤ vK l k i ∧ vK l k i ≤ 9999999999 := by
  have f : ∀ j, j < k → j ≠ 4 → j ≠ 7 → 48 ≤ ((l.getD j 0).toNat : Int) ∧ ((l.getD j 0).toNat : Int) ≤ 57 := by
    intro j hj h4 h7
    have := ho j hj
    unfold okP at this
    rw [if_neg (by omega), isD_iff] at this
    exact this
  obtain ⟨c0, c1, c2, c3, c4, c5, c6, c7, c8, c9, rfl⟩ := ten h
  have f0 := f 0
  have f1 := f 1
  have f2 := f 2
  have f3 := f 3
  have f5 := f 5
  have f6 := f 6
  have f8 := f 8
  have f9 := f 9
  simp at f0 f1 f2 f3 f5 f6 f8 f9
  match i with
  | 0 => rcases (show k = 0 ∨ k = 1 ∨ k = 2 ∨ k = 3 ∨ 4 ≤ k by omega) with rfl | rfl | rfl | rfl | g
         · simp [vK, val]
         · simp [vK, val]; omega
         · simp [vK, val]; omega
         · simp [vK, val]; omega
         · simp [vK, val, Nat.min_eq_right g]; omega
  | 1 => rcases (show k ≤ 5 ∨ k = 6 ∨ 7 ≤ k by omega) with g | rfl | g
         · have e : k - 5 = 0 := by omega
           simp [vK, val, e]
         · simp [vK, val]; omega
         · have e : min (k - 5) 2 = 2 := by omega
           simp [vK, val, e]; omega
  | (i + 2) => rcases (show k ≤ 8 ∨ k = 9 ∨ k = 10 by omega) with g | rfl | rfl
               · have e : k - 8 = 0 := by omega
                 simp [vK, val, e]
               · simp [vK, val]; omega
               · simp [vK, val]; omega

theorem frm_bad {l : List UInt8} (h : l.length = 10) {k : Nat} (hk : k < 10) (ho : okP l k = false) : psV l = 0 ∧ psE l = 12 := by
  refine ps_no l ?_
  rw [Bool.eq_false_iff]
  intro hf
  have := (frm_all h).1 hf k hk
  rw [ho] at this
  cases this
theorem frm_good {l : List UInt8} (h : l.length = 10) (ho : ∀ j, j < 10 → okP l j = true) : ofV (vK l 10 0) (vK l 10 1) (vK l 10 2) = psV l ∧ ofE (vK l 10 0) (vK l 10 1) (vK l 10 2) = psE l := by
  have hf := (frm_all h).2 ho
  have e2 : (l.drop 8).take 2 = l.drop 8 := List.take_of_length_le (by rw [List.length_drop]; omega)
  unfold psV psE
  rw [if_pos hf, if_pos hf]
  have v0 : vK l 10 0 = val (l.take 4) := rfl
  have v1 : vK l 10 1 = val ((l.drop 5).take 2) := rfl
  have v2 : vK l 10 2 = val (l.drop 8) := by show val ((l.drop 8).take 2) = _; rw [e2]
  rw [v0, v1, v2]
  exact ⟨rfl, rfl⟩

/-- the array of the call's own -/
def Arr (w : World) (B : Nat) (a b c : Int) : Prop := w.heap[B]? = some (.cells #[.int .i64 a, .int .i64 b, .int .i64 c] 48 (0, 0))

theorem cell_of {w : World} {B : Nat} {cs : Array Value} {t : TypeId} {fz : Nat × Nat} (h : w.heap[B]? = some (.cells cs t fz)) (i : Nat) (v : Value) (hv : cs[i]? = some v) : w.cell? ⟨B, i, none⟩ = some v := by
  simp [World.cell?, h, hv]
theorem frozen_of {w : World} {B : Nat} {cs : Array Value} {t : TypeId} (h : w.heap[B]? = some (.cells cs t (0, 0))) (i : Nat) : w.frozen? ⟨B, i, none⟩ = false := by
  simp [World.frozen?, h]

theorem arr_set0 {w : World} {B : Nat} {a b c : Value} {t : TypeId} (h : w.heap[B]? = some (.cells #[a, b, c] t (0, 0))) (v : Value) : (w.setCell ⟨B, 0, none⟩ v).heap[B]? = some (.cells #[v, b, c] t (0, 0)) := by
  simp [World.setCell, Array.getElem?_modify, h]
theorem arr_set1 {w : World} {B : Nat} {a b c : Value} {t : TypeId} (h : w.heap[B]? = some (.cells #[a, b, c] t (0, 0))) (v : Value) : (w.setCell ⟨B, 1, none⟩ v).heap[B]? = some (.cells #[a, v, c] t (0, 0)) := by
  simp [World.setCell, Array.getElem?_modify, h]
theorem arr_set2 {w : World} {B : Nat} {a b c : Value} {t : TypeId} (h : w.heap[B]? = some (.cells #[a, b, c] t (0, 0))) (v : Value) : (w.setCell ⟨B, 2, none⟩ v).heap[B]? = some (.cells #[a, b, v] t (0, 0)) := by
  simp [World.setCell, Array.getElem?_modify, h]

set_option maxRecDepth 100000 in
set_option maxHeartbeats 4000000 in
theorem rparse_mid (s : ByteArray) (w : World) (h10 : s.size = 10) :
    Calls Try.prog 27 #[.string s] w fun e w' => e = .returned (.tuple #[.int .i64 (psV s.data.toList), .int .i64 (psE s.data.toList)]) ∧ Below w.heap.size w w' := by
  have hlen : s.data.toList.length = 10 := by simpa using h10
  have t10 : ((s.size : Int) != 10) = false := by rw [h10]; rfl
  have hs1 : s.size ≤ 10 := by omega
  have hs2 : 10 ≤ s.size := by omega
  have HLEN := Lib.hid hlen
  have hB0 : Below w.heap.size w (w.alloc (.cells #[.int .i64 0, .int .i64 0, .int .i64 0] 48)) := (Below.refl _ _).alloc (Nat.le_refl _) _
  have hA0 : Arr (w.alloc (.cells #[.int .i64 0, .int .i64 0, .int .i64 0] 48)) w.heap.size (vK s.data.toList 0 0) (vK s.data.toList 0 1) (vK s.data.toList 0 2) := heap_alloc_new w _
  have HA0 := Lib.hid hA0
  clear hA0 h10 hlen
  go_enter Try.func27, Try.ntmps27
  go_wp2_with fail
  go_loopw [5, 6] (fun a i wr => ∃ k : Nat, k ≤ 10 ∧ i = .int .i64 k ∧ a = .int .i64 (atK k) ∧ Hid (∀ j, j < k → okP s.data.toList j = true) ∧ Hid (Arr wr w.heap.size (vK s.data.toList k 0) (vK s.data.toList k 1) (vK s.data.toList k 2)) ∧ Below w.heap.size w wr) (fun _ i _ => 10 - (intOf i).toNat)
  case atStart => exact ⟨0, by omega, rfl, rfl, Lib.hid (fun j hj => by omega), HA0, hB0⟩
  case round =>
    clear HA0 hB0
    obtain ⟨k, hk, rfl, rfl, HO, HA, hb⟩ := hrel
    by_cases hlt : k < 10
    · have hkz : k < s.size := by omega
      have HG := Lib.hid (show s.data.toList.getD k 0 = s[k] by simp [List.getD, hkz]; rfl)
      have HV := Lib.hid (vK_step HLEN.out k hlt)
      have HW := Lib.hid (vK_bd HLEN.out k hk HO.out)
      rcases (show k < 4 ∨ (k = 4 ∨ k = 7) ∨ (k = 5 ∨ k = 6) ∨ (k = 8 ∨ k = 9) by omega) with g | g | g | g
      · have b0 := HW.out 0
        have hvv := HV.out.1 g
        have h47 : ¬ (k = 4 ∨ k = 7) := by omega
        have HK := Lib.hid (show okP s.data.toList k = isD s[k] by unfold okP; rw [if_neg h47, HG.out])
        have ha : Hid (wr.heap[w.heap.size]? = some (.cells #[.int .i64 (vK s.data.toList k 0), .int .i64 (vK s.data.toList k 1), .int .i64 (vK s.data.toList k 2)] 48 (0, 0))) := HA.out
        have t4 : ((k : Int) == 4) = false := by rw [beq_eq_false_iff_ne]; omega
        have t7 : ((k : Int) == 7) = false := by rw [beq_eq_false_iff_ne]; omega
        have hat : atK k = 0 := by unfold atK; rw [if_pos (by omega)]
        have hat2 := Lib.hid (show atK (k + 1) = 0 by unfold atK; rw [if_pos (by omega)])
        rw [hat]
        clear hat
        have q0 : wr.cell? ⟨w.heap.size, 0, none⟩ = some (.int .i64 (vK s.data.toList k 0)) := cell_of ha.out 0 _ rfl
        have fr : wr.frozen? ⟨w.heap.size, 0, none⟩ = false := frozen_of ha.out 0
        have HN := Lib.hid hvv
        clear hvv g h47
        by_cases hd : isD s[k] = true
        · have HO2 : Hid (∀ j, j < k + 1 → okP s.data.toList j = true) := fun j hj => by
            rcases Nat.lt_or_ge j k with hjk | hjk
            · exact HO.out j hjk
            · obtain rfl : j = k := by omega
              rw [HK.out]
              exact hd
          have hd2 := (isD_iff s[k]).1 hd
          have HA2 := Lib.hid (fun v => arr_set0 ha.out v)
          generalize vK s.data.toList k 0 = x0 at *
          have n1 : IntKind.i64.wrap (10 * x0) = 10 * x0 := IntWalk.i64_in _ (by omega)
          have n2 : IntKind.i64.wrap (10 * x0 + (s[k].toNat : Int)) = 10 * x0 + (s[k].toNat : Int) := IntWalk.i64_in _ (by omega)
          have n3 : IntKind.i64.wrap (10 * x0 + (s[k].toNat : Int) - 48) = 10 * x0 + (s[k].toNat : Int) - 48 := IntWalk.i64_in _ (by omega)
          have k0 : (0 : Int) ≤ k := by omega
          have k1 : (k : Int) < s.size := by omega
          clear hd
          go_wp2_with fail
          go_region
          clear n1 n2 n3
          go_wp2
          go_roundw
          case rel => exact ⟨k + 1, by omega, by go_num, by rw [hat2.out], HO2, by
            have e := HA2.out (.int .i64 (10 * x0 + (s[k].toNat : Int) - 48))
            obtain ⟨e0, e1, e2⟩ := HN.out
            rw [HG.out] at e0
            unfold Arr
            rw [e0, e1, e2]
            exact e, (hb.setCell (p := ⟨w.heap.size, 0, none⟩) (Nat.le_refl _) _).drew⟩
          case measure => simp [intOf]; omega
        · have hd1 : isD s[k] = false := by simpa using hd
          have HP := Lib.hid (frm_bad HLEN.out hlt (HK.out.trans hd1))
          have hd2 : ¬ (48 ≤ (s[k].toNat : Int) ∧ (s[k].toNat : Int) ≤ 57) := fun x => hd ((isD_iff s[k]).2 x)
          by_cases hlo : (s[k].toNat : Int) < 48
          all_goals
            have hd3 : (s[k].toNat : Int) < 48 ∨ 57 < (s[k].toNat : Int) := by omega
            clear hd hd1 hd2
            go_wp2
            go_ret2
            exact ⟨ret_pair HP.out.1.symm HP.out.2.symm, hb⟩
      · rcases g with rfl | rfl
        · have hvv := HV.out.2.1 (by omega)
          have HN := Lib.hid hvv
          have HK := Lib.hid (show okP s.data.toList 4 = (s[4] == 45) by unfold okP; rw [if_pos (by omega), HG.out])
          clear hvv
          have a0 : atK 4 = 0 := rfl
          rw [a0]
          clear a0
          by_cases h4 : s[4] = 45
          · have t4 : ((s[4].toNat : Int) != 45) = false := by rw [h4]; rfl
            have HO2 : Hid (∀ j, j < 4 + 1 → okP s.data.toList j = true) := fun j hj => by
              rcases Nat.lt_or_ge j 4 with hjk | hjk
              · exact HO.out j hjk
              · obtain rfl : j = 4 := by omega
                rw [HK.out, h4]
                rfl
            clear h4
            go_wp2
            go_roundw
            case rel => exact ⟨4 + 1, by omega, rfl, rfl, HO2, by
              obtain ⟨e0, e1, e2⟩ := HN.out
              rw [e0, e1, e2]
              exact HA, hb⟩
            case measure => simp [intOf]
          · have t4 : ((s[4].toNat : Int) != 45) = true := by rw [bne_iff_ne]; exact fun x => h4 (by rw [← UInt8.toNat_inj]; exact_mod_cast x)
            have HP := Lib.hid (frm_bad HLEN.out hlt (by rw [HK.out]; exact beq_eq_false_iff_ne.2 h4))
            clear h4
            go_wp2
            go_ret2
            exact ⟨ret_pair HP.out.1.symm HP.out.2.symm, hb⟩
        · have hvv := HV.out.2.1 (by omega)
          have HN := Lib.hid hvv
          have HK := Lib.hid (show okP s.data.toList 7 = (s[7] == 45) by unfold okP; rw [if_pos (by omega), HG.out])
          clear hvv
          have a0 : atK 7 = 1 := rfl
          rw [a0]
          clear a0
          by_cases h4 : s[7] = 45
          · have t4 : ((s[7].toNat : Int) != 45) = false := by rw [h4]; rfl
            have HO2 : Hid (∀ j, j < 7 + 1 → okP s.data.toList j = true) := fun j hj => by
              rcases Nat.lt_or_ge j 7 with hjk | hjk
              · exact HO.out j hjk
              · obtain rfl : j = 7 := by omega
                rw [HK.out, h4]
                rfl
            clear h4
            go_wp2
            go_roundw
            case rel => exact ⟨7 + 1, by omega, rfl, rfl, HO2, by
              obtain ⟨e0, e1, e2⟩ := HN.out
              rw [e0, e1, e2]
              exact HA, hb⟩
            case measure => simp [intOf]
          · have t4 : ((s[7].toNat : Int) != 45) = true := by rw [bne_iff_ne]; exact fun x => h4 (by rw [← UInt8.toNat_inj]; exact_mod_cast x)
            have HP := Lib.hid (frm_bad HLEN.out hlt (by rw [HK.out]; exact beq_eq_false_iff_ne.2 h4))
            clear h4
            go_wp2
            go_ret2
            exact ⟨ret_pair HP.out.1.symm HP.out.2.symm, hb⟩
      · have b0 := HW.out 1
        have hvv := HV.out.2.2.1 g
        have h47 : ¬ (k = 4 ∨ k = 7) := by omega
        have HK := Lib.hid (show okP s.data.toList k = isD s[k] by unfold okP; rw [if_neg h47, HG.out])
        have ha : Hid (wr.heap[w.heap.size]? = some (.cells #[.int .i64 (vK s.data.toList k 0), .int .i64 (vK s.data.toList k 1), .int .i64 (vK s.data.toList k 2)] 48 (0, 0))) := HA.out
        have t4 : ((k : Int) == 4) = false := by rw [beq_eq_false_iff_ne]; omega
        have t7 : ((k : Int) == 7) = false := by rw [beq_eq_false_iff_ne]; omega
        have hat : atK k = 1 := by unfold atK; rw [if_neg (by omega), if_pos (by omega)]
        have hat2 := Lib.hid (show atK (k + 1) = 1 by unfold atK; rw [if_neg (by omega), if_pos (by omega)])
        rw [hat]
        clear hat
        have q0 : wr.cell? ⟨w.heap.size, 1, none⟩ = some (.int .i64 (vK s.data.toList k 1)) := cell_of ha.out 1 _ rfl
        have fr : wr.frozen? ⟨w.heap.size, 1, none⟩ = false := frozen_of ha.out 1
        have HN := Lib.hid hvv
        clear hvv g h47
        by_cases hd : isD s[k] = true
        · have HO2 : Hid (∀ j, j < k + 1 → okP s.data.toList j = true) := fun j hj => by
            rcases Nat.lt_or_ge j k with hjk | hjk
            · exact HO.out j hjk
            · obtain rfl : j = k := by omega
              rw [HK.out]
              exact hd
          have hd2 := (isD_iff s[k]).1 hd
          have HA2 := Lib.hid (fun v => arr_set1 ha.out v)
          generalize vK s.data.toList k 1 = x0 at *
          have n1 : IntKind.i64.wrap (10 * x0) = 10 * x0 := IntWalk.i64_in _ (by omega)
          have n2 : IntKind.i64.wrap (10 * x0 + (s[k].toNat : Int)) = 10 * x0 + (s[k].toNat : Int) := IntWalk.i64_in _ (by omega)
          have n3 : IntKind.i64.wrap (10 * x0 + (s[k].toNat : Int) - 48) = 10 * x0 + (s[k].toNat : Int) - 48 := IntWalk.i64_in _ (by omega)
          have k0 : (0 : Int) ≤ k := by omega
          have k1 : (k : Int) < s.size := by omega
          clear hd
          go_wp2_with fail
          go_region
          clear n1 n2 n3
          go_wp2
          go_roundw
          case rel => exact ⟨k + 1, by omega, by go_num, by rw [hat2.out], HO2, by
            have e := HA2.out (.int .i64 (10 * x0 + (s[k].toNat : Int) - 48))
            obtain ⟨e0, e1, e2⟩ := HN.out
            rw [HG.out] at e1
            unfold Arr
            rw [e0, e1, e2]
            exact e, (hb.setCell (p := ⟨w.heap.size, 1, none⟩) (Nat.le_refl _) _).drew⟩
          case measure => simp [intOf]; omega
        · have hd1 : isD s[k] = false := by simpa using hd
          have HP := Lib.hid (frm_bad HLEN.out hlt (HK.out.trans hd1))
          have hd2 : ¬ (48 ≤ (s[k].toNat : Int) ∧ (s[k].toNat : Int) ≤ 57) := fun x => hd ((isD_iff s[k]).2 x)
          by_cases hlo : (s[k].toNat : Int) < 48
          all_goals
            have hd3 : (s[k].toNat : Int) < 48 ∨ 57 < (s[k].toNat : Int) := by omega
            clear hd hd1 hd2
            go_wp2
            go_ret2
            exact ⟨ret_pair HP.out.1.symm HP.out.2.symm, hb⟩
      · have b0 := HW.out 2
        have hvv := HV.out.2.2.2 g
        have h47 : ¬ (k = 4 ∨ k = 7) := by omega
        have HK := Lib.hid (show okP s.data.toList k = isD s[k] by unfold okP; rw [if_neg h47, HG.out])
        have ha : Hid (wr.heap[w.heap.size]? = some (.cells #[.int .i64 (vK s.data.toList k 0), .int .i64 (vK s.data.toList k 1), .int .i64 (vK s.data.toList k 2)] 48 (0, 0))) := HA.out
        have t4 : ((k : Int) == 4) = false := by rw [beq_eq_false_iff_ne]; omega
        have t7 : ((k : Int) == 7) = false := by rw [beq_eq_false_iff_ne]; omega
        have hat : atK k = 2 := by unfold atK; rw [if_neg (by omega), if_neg (by omega)]
        have hat2 := Lib.hid (show atK (k + 1) = 2 by unfold atK; rw [if_neg (by omega), if_neg (by omega)])
        rw [hat]
        clear hat
        have q0 : wr.cell? ⟨w.heap.size, 2, none⟩ = some (.int .i64 (vK s.data.toList k 2)) := cell_of ha.out 2 _ rfl
        have fr : wr.frozen? ⟨w.heap.size, 2, none⟩ = false := frozen_of ha.out 2
        have HN := Lib.hid hvv
        clear hvv g h47
        by_cases hd : isD s[k] = true
        · have HO2 : Hid (∀ j, j < k + 1 → okP s.data.toList j = true) := fun j hj => by
            rcases Nat.lt_or_ge j k with hjk | hjk
            · exact HO.out j hjk
            · obtain rfl : j = k := by omega
              rw [HK.out]
              exact hd
          have hd2 := (isD_iff s[k]).1 hd
          have HA2 := Lib.hid (fun v => arr_set2 ha.out v)
          generalize vK s.data.toList k 2 = x0 at *
          have n1 : IntKind.i64.wrap (10 * x0) = 10 * x0 := IntWalk.i64_in _ (by omega)
          have n2 : IntKind.i64.wrap (10 * x0 + (s[k].toNat : Int)) = 10 * x0 + (s[k].toNat : Int) := IntWalk.i64_in _ (by omega)
          have n3 : IntKind.i64.wrap (10 * x0 + (s[k].toNat : Int) - 48) = 10 * x0 + (s[k].toNat : Int) - 48 := IntWalk.i64_in _ (by omega)
          have k0 : (0 : Int) ≤ k := by omega
          have k1 : (k : Int) < s.size := by omega
          clear hd
          go_wp2_with fail
          go_region
          clear n1 n2 n3
          go_wp2
          go_roundw
          case rel => exact ⟨k + 1, by omega, by go_num, by rw [hat2.out], HO2, by
            have e := HA2.out (.int .i64 (10 * x0 + (s[k].toNat : Int) - 48))
            obtain ⟨e0, e1, e2⟩ := HN.out
            rw [HG.out] at e2
            unfold Arr
            rw [e0, e1, e2]
            exact e, (hb.setCell (p := ⟨w.heap.size, 2, none⟩) (Nat.le_refl _) _).drew⟩
          case measure => simp [intOf]; omega
        · have hd1 : isD s[k] = false := by simpa using hd
          have HP := Lib.hid (frm_bad HLEN.out hlt (HK.out.trans hd1))
          have hd2 : ¬ (48 ≤ (s[k].toNat : Int) ∧ (s[k].toNat : Int) ≤ 57) := fun x => hd ((isD_iff s[k]).2 x)
          by_cases hlo : (s[k].toNat : Int) < 48
          all_goals
            have hd3 : (s[k].toNat : Int) < 48 ∨ 57 < (s[k].toNat : Int) := by omega
            clear hd hd1 hd2
            go_wp2
            go_ret2
            exact ⟨ret_pair HP.out.1.symm HP.out.2.symm, hb⟩
    · obtain rfl : k = 10 := by omega
      have ha : Hid (wr.heap[w.heap.size]? = some (.cells #[.int .i64 (vK s.data.toList 10 0), .int .i64 (vK s.data.toList 10 1), .int .i64 (vK s.data.toList 10 2)] 48 (0, 0))) := HA.out
      have q0 : wr.cell? ⟨w.heap.size, 0, none⟩ = some (.int .i64 (vK s.data.toList 10 0)) := cell_of ha.out 0 _ rfl
      have q1 : wr.cell? ⟨w.heap.size, 1, none⟩ = some (.int .i64 (vK s.data.toList 10 1)) := cell_of ha.out 1 _ rfl
      have q2 : wr.cell? ⟨w.heap.size, 2, none⟩ = some (.int .i64 (vK s.data.toList 10 2)) := cell_of ha.out 2 _ rfl
      have HP := Lib.hid (frm_good HLEN.out HO.out)
      go_wp2_with fail
      refine (rof_any _ _ _ _).mono ?_
      rintro e w' ⟨rfl, rfl⟩
      go_wp2
      go_ret2
      exact ⟨ret_pair HP.out.1 HP.out.2, hb⟩

theorem rparse_any (s : ByteArray) (w : World) (_hs : s.size ≤ maxLen) :
    Calls Try.prog 27 #[.string s] w fun e w' => e = .returned (.tuple #[.int .i64 (psV s.data.toList), .int .i64 (psE s.data.toList)]) ∧ Below w.heap.size w w' := by
  by_cases h10 : s.size = 10
  · exact rparse_mid s w h10
  · have t10 : ((s.size : Int) != 10) = true := by rw [bne_iff_ne]; omega
    have HP := Lib.hid (ps_no s.data.toList (by
      have e : (s.data.toList.length == 10) = false := by rw [beq_eq_false_iff_ne]; simpa using h10
      rw [frm, e]
      rfl))
    clear h10
    go_enter Try.func27, Try.ntmps27
    go_wp2
    go_ret2
    exact ⟨ret_pair HP.out.1.symm HP.out.2.symm, Below.refl _ _⟩

theorem text_uni (n : Int) : ∃ (a : ByteArray) (g : Int),
    (∀ w : World, Calls Try.prog 24 #[.int .i64 n] w fun e w' => e = .returned (.tuple #[.string a, .int .i64 g]) ∧ Below w.heap.size w w') ∧
    (∀ w : World, Calls Try.prog 25 #[.int .i64 n] w fun e w' => e = .returned (.tuple #[.string a, .int .i64 g]) ∧ Below w.heap.size w w') := by
  by_cases h : n < 0 ∨ 99999 < n
  · refine ⟨⟨#[]⟩, 2, fun w => ?_, fun w => ?_⟩
    · refine (text_no n w h).mono ?_
      rintro e w' ⟨rfl, rfl⟩
      exact ⟨rfl, Below.refl _ _⟩
    · refine (rtext_no n w h).mono ?_
      rintro e w' ⟨rfl, rfl⟩
      exact ⟨rfl, Below.refl _ _⟩
  · obtain ⟨y, m, d, hD⟩ := date_exists n (by omega) (by omega)
    exact ⟨_, 0, fun w => text_yes y m d n w hD (by omega), fun w => rtext_yes y m d n w hD (by omega)⟩

set_option maxHeartbeats 1000000 in
theorem texts_walk (n : Int) (_wn : (Lit.int .i64 n).wf = true) (s : ByteArray) (hs : s.size ≤ maxLen) (w : World) :
    Calls Try.prog 5 #[.int .i64 n, .string s] w fun e w' => e = .returned (.bool true) ∧ Below w.heap.size w w' := by
  clear _wn
  obtain ⟨a, g, hp, hr⟩ := text_uni n
  have HP := Lib.hid hp
  have HR := Lib.hid hr
  have HS := Lib.hid hs
  clear hp hr hs
  go_enter Try.func5, Try.ntmps5
  go_wp2_with fail
  refine (HP.out _).mono ?_
  rintro e w1 ⟨rfl, c1⟩
  go_wp2_with fail
  refine (HR.out _).mono ?_
  rintro e w2 ⟨rfl, b2⟩
  have c2 := bt0 c1 b2 (Nat.le_refl _)
  go_wp2_with fail
  refine (parse_any s _ HS.out).mono ?_
  rintro e w3 ⟨rfl, b3⟩
  have c3 := bt0 c2 b3 (Nat.le_refl _)
  go_wp2_with fail
  refine (rparse_any s _ HS.out).mono ?_
  rintro e w4 ⟨rfl, b4⟩
  have c4 := bt0 c3 b4 (Nat.le_refl _)
  go_wp2
  go_ret
  exact ⟨rfl, c4⟩
end Go.Proofs.Ytaogoednndlaeaa.Dt
