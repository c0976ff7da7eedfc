/-
  Member: the walks of small functions of the reference.
-/
import Derived.Test.YtoemjpfoddeinaaMwR
import Derived.BigQuiet
namespace Go.Proofs.Ytoemjpfoddeinaa.Mb
open Go.RowKit Go.Proofs.Ytoemjpfoddeinaa Go.Proofs.Ytoemjpfoddeinaa.Ls Go.Proofs.Ytoemjpfoddeinaa.Kb
open Go.Proofs.Ytoemjpfoddeinaa.Nm hiding ret_bool ret_int

theorem rname_q (s : ByteArray) (w : World) (b : Bool) (hs : s.size ≤ maxLen) (h : nm s = b) : Calls Try.prog 90 #[.string s] w fun e w' => e = .returned (.bool b) ∧ w' = w := by
  subst h
  exact (refName_any s w hs).mono fun _ _ h => ⟨h.1, h.2.symm⟩
set_option maxRecDepth 100000 in
theorem rmoney_q (n : Int) (b : Bool) (w : World) (h : mon n = b) : Calls Try.prog 87 #[.int .i64 n] w fun e w' => e = .returned (.bool b) ∧ w' = w := by
  subst h
  by_cases h0 : 0 ≤ n
  · by_cases h1 : n ≤ 1125899906842624
    · have HB := Lib.hid (show mon n = true by unfold mon; rw [decide_eq_true h0, decide_eq_true h1]; rfl)
      go_enter Try.func87, Try.ntmps87
      go_wp2
      go_ret
      exact ⟨ret_bool HB.out.symm, rfl⟩
    · have HB := Lib.hid (show mon n = false by unfold mon; rw [decide_eq_false h1, Bool.and_false])
      go_enter Try.func87, Try.ntmps87
      go_wp2
      go_ret
      exact ⟨ret_bool HB.out.symm, rfl⟩
  · have HB := Lib.hid (show mon n = false by unfold mon; rw [decide_eq_false h0, Bool.false_and])
    go_enter Try.func87, Try.ntmps87
    go_wp2
    go_ret
    exact ⟨ret_bool HB.out.symm, rfl⟩
set_option maxRecDepth 100000 in
theorem rsigned_q (n : Int) (b : Bool) (w : World) (h : sig n = b) : Calls Try.prog 92 #[.int .i64 n] w fun e w' => e = .returned (.bool b) ∧ w' = w := by
  subst h
  by_cases h0 : -1125899906842624 ≤ n
  · by_cases h1 : n ≤ 1125899906842624
    · have HB := Lib.hid (show sig n = true by unfold sig; rw [decide_eq_true h0, decide_eq_true h1]; rfl)
      go_enter Try.func92, Try.ntmps92
      go_wp2
      go_ret
      exact ⟨ret_bool HB.out.symm, rfl⟩
    · have HB := Lib.hid (show sig n = false by unfold sig; rw [decide_eq_false h1, Bool.and_false])
      go_enter Try.func92, Try.ntmps92
      go_wp2
      go_ret
      exact ⟨ret_bool HB.out.symm, rfl⟩
  · have HB := Lib.hid (show sig n = false by unfold sig; rw [decide_eq_false h0, Bool.false_and])
    go_enter Try.func92, Try.ntmps92
    go_wp2
    go_ret
    exact ⟨ret_bool HB.out.symm, rfl⟩
def party (s : ByteArray) : Bool := nm s && !decide (s = house)
set_option maxRecDepth 100000 in
theorem rparty_q (s : ByteArray) (b : Bool) (w : World) (hs : s.size ≤ maxLen) (h : party s = b) : Calls Try.prog 86 #[.string s] w fun e w' => e = .returned (.bool b) ∧ w' = w := by
  subst h
  have HB := Lib.hid (show party s = (nm s && !decide (s = house)) from rfl)
  generalize party s = b at HB ⊢
  rcases Kb.hb (nm s) with h1 | h1
  case inr =>
    rw [h1] at HB
    have HN := Lib.hid (rname_q s w false hs h1)
    clear h1
    go_enter Try.func86, Try.ntmps86
    go_wp2_with fail
    refine HN.out.mono ?_
    rintro e w1 ⟨rfl, rfl⟩
    go_wp2_with fail
    go_ret
    exact ⟨ret_bool (by rw [HB.out]; rfl), rfl⟩
  rw [h1] at HB
  have HN := Lib.hid (rname_q s w true hs h1)
  clear h1
  by_cases h2 : s = house
  · have g1 := neq_no h2
    have g2 := eq_yes h2
    rw [house_list] at g1 g2
    have HF := Lib.hid (show b = false by rw [HB.out, decide_eq_true h2]; rfl)
    clear h2 HB
    go_enter Try.func86, Try.ntmps86
    go_wp2_with fail
    refine HN.out.mono ?_
    rintro e w1 ⟨rfl, rfl⟩
    go_wp2_with fail
    go_ret
    exact ⟨ret_bool HF.out.symm, rfl⟩
  · have g1 := neq_yes h2
    have g2 := eq_no h2
    rw [house_list] at g1 g2
    have HF := Lib.hid (show b = true by rw [HB.out, decide_eq_false h2]; rfl)
    clear h2 HB
    go_enter Try.func86, Try.ntmps86
    go_wp2_with fail
    refine HN.out.mono ?_
    rintro e w1 ⟨rfl, rfl⟩
    go_wp2_with fail
    go_ret
    exact ⟨ret_bool HF.out.symm, rfl⟩

set_option maxRecDepth 100000 in
set_option maxHeartbeats 4000000 in
theorem rused_any (x : P) (w : World) (hn : x.1.ac.length ≤ 1000) (hA : AtL w 4 acc x.2.1 x.1.ac) (hU : ∀ y ∈ x.1.ac, -4503599627370496 ≤ y.us ∧ y.us ≤ 4503599627370496) :
    Calls Try.prog 73 #[.agg #[.string x.1.nm, .int .u8 x.1.ro, .bool x.1.su, .int .i64 x.1.lim, .slice x.2.1 x.1.ac.length x.2.2]] w fun e w' => e = .returned (.int .i64 (ex x.1.ac)) ∧ Below w.heap.size w w' := by
  obtain ⟨⟨N, ro, su, lim, L⟩, a, c⟩ := x
  dsimp only at *
  have HA := Lib.hid hA
  have HE := Lib.hid (fun k h => ex_take L _ (by omega) hU k h)
  have HU := Lib.hid hU
  have hbo : Below w.heap.size w (w.alloc (.cells #[.string N, .int .u8 ro, .bool su, .int .i64 lim, .slice a L.length c] 30)) := (Below.refl _ _).alloc (Nat.le_refl _) _
  have HX := Lib.hid (blk_new w (.cells #[.string N, .int .u8 ro, .bool su, .int .i64 lim, .slice a L.length c] 30))
  clear hA hU
  go_enter Try.func73, Try.ntmps73
  go_wp2_with fail
  generalize w.alloc _ = wo at hbo HX ⊢
  have x4 := cell_of HX.out 4 _ rfl
  go_loopw [3, 4] (fun s i wr => ∃ k : Nat, k ≤ L.length ∧ s = .int .i64 (ex (L.take k)) ∧ i = .int .i64 k ∧ wr = wo) (fun _ i _ => L.length - (intOf i).toNat)
  case atStart => exact ⟨0, by omega, rfl, rfl, rfl⟩
  case round =>
    obtain ⟨k, hk, rfl, rfl, rfl⟩ := hrel
    by_cases hlt : k < L.length
    · obtain ⟨b, off, rfl, q0, q1, q2, q3⟩ := at_a (HA.out.below hbo) k hlt
      have k0 : (0 : Int) ≤ k := by omega
      have k1 : (k : Int) < L.length := by omega
      have e1 := HE.out k (by omega)
      have e2 := HE.out (k + 1) (by omega)
      have hu := HU.out _ (ga_mem L k hlt)
      have hs : ex (L.take (k + 1)) = ex (L.take k) + ab (ga L k).us := by rw [take_succ_a L k hlt, ex_snoc]
      generalize ga L k = y at *
      generalize ex (L.take k) = S at *
      have HS := Lib.hid hs
      rw [hs] at e2
      have hw : IntKind.i64.wrap (S + ab y.us) = S + ab y.us := IntWalk.i64_in _ (by omega)
      have hu2 : -9223372036854775808 < y.us ∧ y.us ≤ 9223372036854775807 := by omega
      have HAB := Lib.hid (show ∀ wx, Calls Try.prog 93 #[.int .i64 y.us] wx fun e w' => e = .returned (.int .i64 (ab y.us)) ∧ w' = wx from fun wx => refAbs_any y.us wx hu2)
      generalize ab y.us = z at *
      clear e1 e2 hu hs hu2
      go_wp2_with fail
      refine (HAB.out _).mono ?_
      rintro e w2 ⟨rfl, rfl⟩
      go_wp2
      go_roundw
      case rel => exact ⟨k + 1, by omega, by rw [HS.out], by go_num, by first | rfl | trivial⟩
      case measure => simp [intOf]; omega
    · obtain rfl : k = L.length := by omega
      have HL := Lib.hid (show ex (L.take L.length) = ex L by rw [List.take_length])
      go_wp2
      go_ret
      exact ⟨by rw [← HL.out]; rfl, hbo⟩

/-- where an account is, or -1 -/
def atF (l : List Ac) (t : ByteArray) : Int := if has (nas l) t then (pos (nas l) t : Int) else -1
theorem atF_yes {l : List Ac} {t : ByteArray} {k : Nat} (hs : srt (nas l) = true) (hk : k < l.length) (h : (ga l k).nm = t) : atF l t = (k : Int) := by
  have hl : (nas l).length = l.length := by simp [nas]
  have hg : gs (nas l) k = t := by rw [← h]; exact gs_a l k
  have hh : has (nas l) t = true := (has_iff _ _).2 ⟨k, by omega, hg⟩
  obtain ⟨h1, h2⟩ := pos_has _ _ hs hh
  have h3 := ((srt_iff _).1 hs).inj _ k h1 (by omega) (h2.trans hg.symm)
  unfold atF
  rw [if_pos hh, h3]
theorem atF_no {l : List Ac} {t : ByteArray} (h : ∀ k, k < l.length → (ga l k).nm ≠ t) : atF l t = -1 := by
  have hl : (nas l).length = l.length := by simp [nas]
  have hh : has (nas l) t = false := by
    cases e : has (nas l) t
    · rfl
    · obtain ⟨i, hi, h2⟩ := (has_iff _ _).1 e
      exact absurd ((gs_a l i).symm.trans h2) (h i (by omega))
  unfold atF
  rw [if_neg (by rw [hh]; decide)]
set_option maxRecDepth 100000 in
set_option maxHeartbeats 4000000 in
theorem rat_any (x : P) (t : ByteArray) (w : World) (hn : x.1.ac.length ≤ 1000) (hs : srt (nas x.1.ac) = true) (hA : AtL w 4 acc x.2.1 x.1.ac) :
    Calls Try.prog 91 #[.agg #[.string x.1.nm, .int .u8 x.1.ro, .bool x.1.su, .int .i64 x.1.lim, .slice x.2.1 x.1.ac.length x.2.2], .string t] w fun e w' => e = .returned (.int .i64 (atF x.1.ac t)) ∧ Below w.heap.size w w' := by
  obtain ⟨⟨N, ro, su, lim, L⟩, a, c⟩ := x
  dsimp only at *
  have HA := Lib.hid hA
  have HS := Lib.hid hs
  have hbo : Below w.heap.size w (w.alloc (.cells #[.string N, .int .u8 ro, .bool su, .int .i64 lim, .slice a L.length c] 30)) := (Below.refl _ _).alloc (Nat.le_refl _) _
  have HX := Lib.hid (blk_new w (.cells #[.string N, .int .u8 ro, .bool su, .int .i64 lim, .slice a L.length c] 30))
  clear hA hs
  obtain ⟨r, hr⟩ : ∃ r, r = atF L t := ⟨_, rfl⟩
  rw [← hr]
  have HR := Lib.hid hr
  clear hr
  go_enter Try.func91, Try.ntmps91
  go_wp2_with fail
  generalize w.alloc _ = wo at hbo HX ⊢
  have x4 := cell_of HX.out 4 _ rfl
  go_loopw [5] (fun i wr => ∃ k : Nat, k ≤ L.length ∧ i = .int .i64 k ∧ Hid (∀ j, j < k → (ga L j).nm ≠ t) ∧ wr = wo) (fun i _ => L.length - (intOf i).toNat)
  case atStart => exact ⟨0, by omega, rfl, fun j hj => by omega, rfl⟩
  case round =>
    obtain ⟨k, hk, rfl, HNO, rfl⟩ := hrel
    by_cases hlt : k < L.length
    · obtain ⟨b, off, rfl, q0, q1, q2, q3⟩ := at_a (HA.out.below hbo) k hlt
      have k0 : (0 : Int) ≤ k := by omega
      have k1 : (k : Int) < L.length := by omega
      by_cases hx : (ga L k).nm = t
      · have HR2 := Lib.hid (show r = (k : Int) by rw [HR.out]; exact atF_yes HS.out hlt hx)
        have he := eq_yes hx
        generalize ga L k = y at q0 q1 q2 q3 he
        clear hx HNO
        go_wp2_with fail
        go_ret
        exact ⟨ret_int HR2.out.symm, hbo⟩
      · have HN2 := Lib.hid (show ∀ j, j < k + 1 → (ga L j).nm ≠ t from fun j hj => by
          rcases Nat.eq_or_lt_of_le (show j ≤ k by omega) with e | e
          · rw [e]; exact hx
          · exact HNO.out j e)
        have he := eq_no hx
        generalize ga L k = y at q0 q1 q2 q3 he
        clear hx HNO
        go_wp2_with fail
        go_roundw
        case rel => exact ⟨k + 1, by omega, by go_num, HN2, by first | rfl | trivial⟩
        case measure => simp [intOf]; omega
    · have HR2 := Lib.hid (show r = -1 by rw [HR.out]; exact atF_no (fun j hj => HNO.out j (by omega)))
      have k1 : ¬ (k : Int) < L.length := by omega
      go_wp2_with fail
      go_ret
      exact ⟨ret_int HR2.out.symm, hbo⟩
end Go.Proofs.Ytoemjpfoddeinaa.Mb
