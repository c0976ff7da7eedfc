/-
  Collateral: the walks of the program's Take and Put.
-/
import Derived.Test.YtbfgnkakcnhojaaCoG
namespace Go.Proofs.Ytbfgnkakcnhojaa.Co
open Go.RowKit Go.Proofs.Ytbfgnkakcnhojaa Go.Proofs.Ytbfgnkakcnhojaa.Ls Go.Proofs.Ytbfgnkakcnhojaa.Kb
open Go.Proofs.Ytbfgnkakcnhojaa.Nm hiding ret_bool ret_int

def fnL (L : List (ByteArray × Int)) (t : ByteArray) : Option Nat := fidx L.length (fun i => (gi L i).1) t
theorem askE_cases (L : List (ByteArray × Int)) (t : ByteArray) (n : Int) : (askE L t n = 0 ∧ holB L = true ∧ nm t = true ∧ 1 ≤ n ∧ n ≤ 1048576) ∨ askE L t n = 2 ∨ askE L t n = 8 := by
  unfold askE
  by_cases h1 : holB L = true
  · rw [if_pos h1]
    by_cases h2 : (nm t && decide (1 ≤ n ∧ n ≤ 1048576)) = true
    · rw [if_pos h2]
      rw [Bool.and_eq_true, decide_eq_true_eq] at h2
      exact .inl ⟨rfl, h1, h2.1, h2.2⟩
    · rw [if_neg h2]
      exact .inr (.inl rfl)
  · rw [if_neg h1]
    exact .inr (.inr rfl)
/-- where the holding of an asset is, or would be -/
theorem placeL {L : List (ByteArray × Int)} (h : holB L = true) (t : ByteArray) : ∃ J, J ≤ L.length ∧ (∀ i, i < J → lt (gi L i).1 t = true) ∧ (∀ i, J ≤ i → i < L.length → lt (gi L i).1 t = false) ∧
    ((fnL L t = some J ∧ J < L.length ∧ cmpS (gi L J).1 t = 0 ∧ (gi L J).1 = t) ∨ (fnL L t = none ∧ (J < L.length → cmpS (gi L J).1 t ≠ 0) ∧ ∀ i, i < L.length → (gi L i).1 ≠ t)) := by
  obtain ⟨J, h1, h2, h3, h4⟩ := found_place (holB_sorted h) (fidx_first L.length (fun i => (gi L i).1) t).found
  refine ⟨J, h1, h2, h3, ?_⟩
  rcases h4 with ⟨i, ha, rfl, hb, hc⟩ | ⟨ha, hb⟩
  · exact .inl ⟨ha, hb, hc, (cmpS_zero _ _).1 hc⟩
  · refine .inr ⟨ha, hb, ?_⟩
    rcases fidx_first L.length (fun i => (gi L i).1) t with ⟨i, hi, _⟩ | ⟨_, hno⟩
    · rw [hi] at ha
      cases ha
    · exact hno
/-- Take's error and result -/
def takE (L : List (ByteArray × Int)) (t : ByteArray) (n : Int) : Int := if askE L t n = 0 then (match fnL L t with | none => 6 | some i => if (gi L i).2 < n then 52 else 0) else askE L t n
def takV (L : List (ByteArray × Int)) (t : ByteArray) (n : Int) : List (ByteArray × Int) := if takE L t n = 0 then (match fnL L t with | none => [] | some i => wo L i n) else []

set_option maxRecDepth 100000 in
set_option maxHeartbeats 2000000 in
theorem take_any (a : Option Addr) (c : Nat) (L : List (ByteArray × Int)) (t : ByteArray) (n : Int) (w : World) (hn : L.length ≤ 1000) (hZ : SzL L) (ht : t.size ≤ maxLen) (hA : AtL w 2 isc a L) :
    Calls Try.prog 29 #[.slice a L.length c, .string t, .int .i64 n] w fun e w' => ∃ a' c', e = .returned (.tuple #[.slice a' (takV L t n).length c', .int .i64 (takE L t n)]) ∧ OwnL w' w.heap.size 56 2 isc (.slice a' (takV L t n).length c') (takV L t n) ∧ Below w.heap.size w w' := by
  have HK := Lib.hid (asked_any a c L t n w hn hZ ht hA)
  have HA := Lib.hid hA
  clear hA
  rcases askE_cases L t n with ⟨h, hh, _, n0, n1⟩ | h
  · rw [h] at HK
    obtain ⟨J, p1, p2, p3, p4⟩ := placeL hh t
    have HU := Lib.hid (holB_at hh)
    rcases p4 with ⟨f1, f2, f3, f4⟩ | ⟨f1, f2, _⟩
    · have hJi : (J : Int) < L.length := by omega
      have hul := HU.out J f2
      have HFD := Lib.hid (fun (v : World) (hv : AtL v 2 isc a L) => find_any a c L t J true v hn hv p1 p2 p3 (by rw [decide_eq_true f2, f3]; rfl))
      obtain ⟨lb, lo, rfl, _⟩ := at_is HA.out J f2
      have HC := Lib.hid (fun (v : World) (hv : Below w.heap.size w v) => (at_is' (HA.out.below hv) J f2).2)
      by_cases hl : (gi L J).2 < n
      · have HE := Lib.hid (show takE L t n = 52 by unfold takE; rw [if_pos h, f1]; exact if_pos hl)
        have HV := Lib.hid (show takV L t n = [] by unfold takV; rw [HE.out]; rfl)
        rw [HE.out, HV.out]
        clear p2 p3 f1 f3 f4 h hh hul HU
        go_enter Try.func29, Try.ntmps29
        go_wp2_with fail
        refine HK.out.mono ?_
        rintro e w1 ⟨rfl, hb1⟩
        go_wp2_with fail
        refine (HFD.out w1 (HA.out.below hb1)).mono ?_
        rintro e w2 ⟨rfl, hb2⟩
        have c2 := bt hb1 hb2 (Nat.le_refl _)
        have q1 : w2.cell? ⟨lb, lo + J * 2 + 1, none⟩ = some (.int .i64 (gi L J).2) := HC.out w2 c2
        clear HC HFD HK
        generalize (gi L J).2 = u at *
        go_wp2
        go_ret2
        exact ⟨none, 0, rfl, OwnL.nil _ _ _ _ _, c2⟩
      · have HE := Lib.hid (show takE L t n = 0 by unfold takE; rw [if_pos h, f1]; exact if_neg hl)
        have HV := Lib.hid (show takV L t n = wo L J n by unfold takV; rw [HE.out, if_pos rfl, f1])
        have HWO := Lib.hid (fun (v : World) (hv : AtL v 2 isc (some ⟨lb, lo, none⟩) L) => without_any (some ⟨lb, lo, none⟩) c L J n v hn f2 (by omega) (by omega) hv)
        rw [HE.out, HV.out]
        clear p2 p3 f1 f3 f4 h hh HU
        generalize wo L J n = WL at HWO ⊢
        go_enter Try.func29, Try.ntmps29
        go_wp2_with fail
        refine HK.out.mono ?_
        rintro e w1 ⟨rfl, hb1⟩
        go_wp2_with fail
        refine (HFD.out w1 (HA.out.below hb1)).mono ?_
        rintro e w2 ⟨rfl, hb2⟩
        have c2 := bt hb1 hb2 (Nat.le_refl _)
        have q1 : w2.cell? ⟨lb, lo + J * 2 + 1, none⟩ = some (.int .i64 (gi L J).2) := HC.out w2 c2
        clear HC HFD HK
        generalize (gi L J).2 = u at *
        go_wp2_with fail
        refine (HWO.out w2 (HA.out.below c2)).mono ?_
        rintro e w3 ⟨a3, c3, rfl, hO3, hb3⟩
        have HO3 := Lib.hid (hO3.lower' c2.size)
        have c4 := bt c2 hb3 (Nat.le_refl _)
        clear hO3
        go_wp2
        go_ret2
        exact ⟨a3, c3, rfl, HO3.out, c4⟩
    · have HE := Lib.hid (show takE L t n = 6 by unfold takE; rw [if_pos h, f1])
      have HV := Lib.hid (show takV L t n = [] by unfold takV; rw [HE.out]; rfl)
      have HFD := Lib.hid (fun (v : World) (hv : AtL v 2 isc a L) => find_any a c L t J false v hn hv p1 p2 p3 (by
        rcases Nat.lt_or_ge J L.length with g | g
        · rw [decide_eq_true g, Bool.true_and]
          exact (beq_eq_false_iff_ne.2 (f2 g)).symm
        · rw [decide_eq_false (by omega)]
          rfl))
      rw [HE.out, HV.out]
      clear p2 p3 f1 f2 h hh HU
      go_enter Try.func29, Try.ntmps29
      go_wp2_with fail
      refine HK.out.mono ?_
      rintro e w1 ⟨rfl, hb1⟩
      go_wp2_with fail
      refine (HFD.out w1 (HA.out.below hb1)).mono ?_
      rintro e w2 ⟨rfl, hb2⟩
      have c2 := bt hb1 hb2 (Nat.le_refl _)
      go_wp2
      go_ret2
      exact ⟨none, 0, rfl, OwnL.nil _ _ _ _ _, c2⟩
  · have hne : askE L t n ≠ 0 := by omega
    have HE := Lib.hid (show takE L t n = askE L t n by unfold takE; rw [if_neg hne])
    have HV := Lib.hid (show takV L t n = [] by unfold takV; rw [HE.out, if_neg hne])
    rw [HE.out, HV.out]
    clear hne
    rcases h with h | h
    all_goals
      rw [h] at HK ⊢
      clear h
      go_enter Try.func29, Try.ntmps29
      go_wp2_with fail
      refine HK.out.mono ?_
      rintro e w1 ⟨rfl, hb1⟩
      go_wp2
      go_ret2
      exact ⟨none, 0, rfl, OwnL.nil _ _ _ _ _, hb1⟩
end Go.Proofs.Ytbfgnkakcnhojaa.Co
