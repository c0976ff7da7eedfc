/-
  Collateral: the walks of asked, without, Take and Put.
-/
import Derived.Test.YtbfgnkakcnhojaaCo6
import Derived.Test.YtbfgnkakcnhojaaCo7
import Derived.IntWalk
namespace Go.Proofs.Ytbfgnkakcnhojaa.Co
open Go.RowKit Go.Proofs.Ytbfgnkakcnhojaa Go.Proofs.Ytbfgnkakcnhojaa.Ls Go.Proofs.Ytbfgnkakcnhojaa.Kb
open Go.Proofs.Ytbfgnkakcnhojaa.Nm hiding ret_bool ret_int

/-- what is returned of bad arguments -/
def askE (L : List (ByteArray × Int)) (t : ByteArray) (n : Int) : Int := if holB L then (if nm t && decide (1 ≤ n ∧ n ≤ 1048576) then 0 else 2) else 8

set_option maxRecDepth 100000 in
set_option maxHeartbeats 2000000 in
theorem asked_any (a : Option Addr) (c : Nat) (L : List (ByteArray × Int)) (t : ByteArray) (n : Int) (w : World) (hn : L.length ≤ 1000) (hZ : SzL L) (ht : t.size ≤ maxLen) (hA : AtL w 2 isc a L) :
    Calls Try.prog 50 #[.slice a L.length c, .string t, .int .i64 n] w fun e w' => e = .returned (.int .i64 (askE L t n)) ∧ Below w.heap.size w w' := by
  have HH := Lib.hid (holdings_any a c L w hn hZ hA)
  have HT := Lib.hid ht
  obtain ⟨W, hW⟩ : ∃ W, W = askE L t n := ⟨_, rfl⟩
  rw [← hW]
  have HW := Lib.hid (show W = if holB L then (if nm t && decide (1 ≤ n ∧ n ≤ 1048576) then 0 else 2) else 8 from hW)
  clear hW ht hA hZ
  go_enter Try.func50, Try.ntmps50
  go_wp2_with fail
  refine HH.out.mono ?_
  rintro e w1 ⟨rfl, hb1⟩
  rcases hb (holB L) with h1 | h1
  · rw [h1] at HW ⊢
    clear h1
    rw [show eV true = 0 from rfl]
    rcases hb (nm t) with h2 | h2
    · rcases hb (decide (1 ≤ n ∧ n ≤ 1048576)) with h3 | h3
      all_goals
        rw [h2, h3] at HW
        have H2 := Lib.hid h2
        have H3 := Lib.hid h3
        clear h2 h3
        go_wp2_with fail
        refine (name_q t _ _ HT.out H2.out).mono ?_
        rintro e w2 ⟨rfl, rfl⟩
        go_wp2_with fail
        refine (units_any n _ _ H3.out).mono ?_
        rintro e w2 ⟨rfl, rfl⟩
        go_wp2
        go_ret
        exact ⟨ret_int HW.out.symm, hb1⟩
    · rw [h2] at HW
      have H2 := Lib.hid h2
      clear h2
      go_wp2_with fail
      refine (name_q t _ _ HT.out H2.out).mono ?_
      rintro e w2 ⟨rfl, rfl⟩
      go_wp2
      go_ret
      exact ⟨ret_int HW.out.symm, hb1⟩
  · rw [h1] at HW ⊢
    clear h1
    rw [show eV false = 8 from rfl]
    go_wp2
    go_ret
    exact ⟨ret_int HW.out.symm, hb1⟩

theorem gi_at (L : List (ByteArray × Int)) (i : Nat) (hi : i < L.length) : gi L i = L[i] := by unfold gi; rw [List.getD_eq_getElem?_getD, List.getElem?_eq_getElem hi]; rfl
/-- a holding's units are written -/
theorem own_upd {w : World} {B g cap : Nat} {L : List (ByteArray × Int)} (h : OwnL w B 56 2 isc (.slice (some ⟨g, 0, none⟩) L.length cap) L) (i : Nat) (hi : i < L.length) (v : Int) :
    OwnL (w.setCell ⟨g, i * 2 + 1, none⟩ (.int .i64 v)) B 56 2 isc (.slice (some ⟨g, 0, none⟩) L.length cap) (L.take i ++ ((gi L i).1, v) :: L.drop (i + 1)) := by
  obtain ⟨cur, _, hg, hc, _, hcs, htk⟩ := h.row'
  have hz : (L.take i ++ ((gi L i).1, v) :: L.drop (i + 1)).length = L.length := by rw [List.length_append, List.length_take, List.length_cons, List.length_drop]; omega
  have hcell := h.cell isc_len i 0 (.string (gi L i).1) (by
    rw [gi_at L i hi, List.drop_eq_getElem_cons hi, List.flatMap_cons]
    rfl)
  have hw := h.write isc_len i [((gi L i).1, v)] (by omega) (by simp only [List.length_singleton]; omega) L.length _ (by
    rw [List.length_singleton, List.append_assoc, List.singleton_append]
    exact (List.take_of_length_le (by omega)).symm) hz (i * 2) rfl _ rfl
  have e : (w.setCell ⟨g, i * 2 + 1, none⟩ (.int .i64 v)).heap[g]? = (w.setCells g (i * 2) ([((gi L i).1, v)].flatMap isc)).heap[g]? := by
    rw [heap_setCells _ _ _ _ hg]
    have e1 : (w.setCell ⟨g, i * 2 + 1, none⟩ (.int .i64 v)).heap[g]? = some (.cells (setA cur (i * 2 + 1) [.int .i64 v]) 56 (0, 0)) := heap_setCells [.int .i64 v] w cur (i * 2 + 1) hg
    rw [e1]
    congr 2
    show cur.setIfInBounds (i * 2 + 1) _ = (cur.setIfInBounds (i * 2) _).setIfInBounds (i * 2 + 1) _
    congr 1
    have hc0 : cur[i * 2]? = some (.string (gi L i).1) := by
      simp only [World.cell?, hg] at hcell
      simpa using hcell
    apply Array.ext_getElem?
    intro j
    rw [Array.getElem?_setIfInBounds]
    split
    · rename_i ej
      subst ej
      rw [hc0]
      split
      · rfl
      · rename_i hlt
        rw [Array.getElem?_eq_none (by omega)] at hc0
        cases hc0
    · rfl
  refine ⟨hw.1, ?_⟩
  rcases hw.2 with ⟨h0, _⟩ | ⟨g', cap', cur', hv, rest⟩
  · cases h0
  · obtain ⟨ha, _, rfl⟩ := Value.slice.inj hv
    cases ha
    refine .inr ⟨g, cap, cur', by rw [hz], rest.1, by rw [e]; exact rest.2.1, rest.2.2⟩
/-- the holdings with n units less of the i-th -/
def wo (L : List (ByteArray × Int)) (i : Nat) (n : Int) : List (ByteArray × Int) := if (gi L i).2 - n = 0 then L.take i ++ L.drop (i + 1) else L.take i ++ ((gi L i).1, (gi L i).2 - n) :: L.drop (i + 1)

set_option maxRecDepth 100000 in
set_option maxHeartbeats 2000000 in
theorem without_any (a : Option Addr) (c : Nat) (L : List (ByteArray × Int)) (i : Nat) (n : Int) (w : World) (hn : L.length ≤ 1000) (hi : i < L.length) (h0 : 0 ≤ (gi L i).2 - n) (h1 : (gi L i).2 - n ≤ 2097152) (hA : AtL w 2 isc a L) :
    Calls Try.prog 42 #[.slice a L.length c, .int .i64 i, .int .i64 n] w fun e w' => ∃ a' c', e = .returned (.slice a' (wo L i n).length c') ∧ OwnL w' w.heap.size 56 2 isc (.slice a' (wo L i n).length c') (wo L i n) ∧ Below w.heap.size w w' := by
  have HC := Lib.hid (clone_hol a c L w hn hA)
  have hi1 : (i : Int) < L.length := by omega
  clear hA
  go_enter Try.func42, Try.ntmps42
  go_wp2_with fail
  refine HC.out.mono ?_
  rintro e w1 ⟨a1, c1, rfl, hO, hb1⟩
  obtain ⟨g, cur, rfl, _, hgB, hg, hcap, _, _, _⟩ := hO.row (by omega)
  have hAt := (hO.sl isc_len).1
  obtain ⟨q0, q1⟩ := at_is' hAt i hi
  simp only [Nat.zero_add] at q0 q1
  have f1 : w1.frozen? ⟨g, i * 2 + 1, none⟩ = false := frozen_of hg _
  have HO := Lib.hid (own_upd hO i hi ((gi L i).2 - n))
  have HG := Lib.hid (show Below w.heap.size w (w1.setCell ⟨g, i * 2 + 1, none⟩ (.int .i64 ((gi L i).2 - n))) from hb1.setCell (p := ⟨g, i * 2 + 1, none⟩) hgB _)
  have HGI : Hid (gi L i = L.getD i i0) := rfl
  have HLN := Lib.hid (show (L.take i ++ ((gi L i).1, (gi L i).2 - n) :: L.drop (i + 1)).length = L.length by rw [List.length_append, List.length_take, List.length_cons, List.length_drop]; omega)
  have HWO : Hid (wo L i n = if (gi L i).2 - n = 0 then L.take i ++ L.drop (i + 1) else L.take i ++ ((gi L i).1, (gi L i).2 - n) :: L.drop (i + 1)) := rfl
  have HGB := Lib.hid hgB
  have hgl := blk_lt hg
  change _ = some (Value.int .i64 (gi L i).2) at q1
  clear hO hAt hb1 hg HC hgB q0
  have w2q : IntKind.i64.wrap ((gi L i).2 - n) = (gi L i).2 - n := by rw [IntKind.wrap_i64]; omega
  by_cases hz : (gi L i).2 - n = 0
  · rw [hz] at HO HG HLN HWO
    rw [if_pos rfl] at HWO
    rw [← HLN.out] at hi1
    have hi2 : i < (L.take i ++ ((gi L i).1, (0 : Int)) :: L.drop (i + 1)).length := by rw [HLN.out]; exact hi
    have HDL := Lib.hid (fun (v : World) (hv : OwnL v w.heap.size 56 2 isc (.slice (some ⟨g, 0, none⟩) (L.take i ++ ((gi L i).1, (0 : Int)) :: L.drop (i + 1)).length c1) (L.take i ++ ((gi L i).1, (0 : Int)) :: L.drop (i + 1))) => delete_hol g c1 i w.heap.size _ v hi2 (by rw [HLN.out]; exact hn) hv)
    rw [HLN.out] at HDL hi1
    have HTD := Lib.hid (show (L.take i ++ ((gi L i).1, (0 : Int)) :: L.drop (i + 1)).take i ++ (L.take i ++ ((gi L i).1, (0 : Int)) :: L.drop (i + 1)).drop (i + 1) = L.take i ++ L.drop (i + 1) by
      have hl : (L.take i).length = i := by rw [List.length_take]; omega
      rw [List.take_left' hl, show L.take i ++ ((gi L i).1, (0 : Int)) :: L.drop (i + 1) = (L.take i ++ [((gi L i).1, (0 : Int))]) ++ L.drop (i + 1) by simp, List.drop_left' (by rw [List.length_append, hl]; rfl)])
    rw [HTD.out] at HDL
    have HLW := Lib.hid (show (L.take i ++ L.drop (i + 1)).length = L.length - 1 by rw [List.length_append, List.length_take, List.length_drop]; omega)
    have HN9 := Lib.hid hz
    have hii : IntKind.i64.wrap ((i : Int) + 1) = (i : Int) + 1 := IntWalk.i64_in _ (by omega)
    clear hi2 HLN HTD
    go_wp2_with fail
    refine (HDL.out _ HO.out).mono ?_
    rintro e w3 ⟨rfl, hO3, hg3⟩
    have HO3 := Lib.hid hO3
    have HB3 := Lib.hid (HG.out.grown hg3 HG.out.size (fun r e => by cases e; exact HGB.out))
    clear hO3 hg3
    go_wp2
    go_ret
    rw [HWO.out]
    exact ⟨_, _, by rw [HLW.out]; rfl, by rw [HLW.out]; exact HO3.out, HB3.out⟩
  · rw [if_neg hz] at HWO
    go_wp2
    go_ret
    rw [HWO.out]
    exact ⟨_, _, by rw [HLN.out]; rfl, by rw [HLN.out]; exact HO.out, HG.out⟩
end Go.Proofs.Ytbfgnkakcnhojaa.Co
