/-
  Collateral: the walk of the reference's Value.
-/
import Derived.Test.YtbfgnkakcnhojaaCoF
namespace Go.Proofs.Ytbfgnkakcnhojaa.Co
open Go.RowKit Go.Proofs.Ytbfgnkakcnhojaa Go.Proofs.Ytbfgnkakcnhojaa.Ls Go.Proofs.Ytbfgnkakcnhojaa.Kb
open Go.Proofs.Ytbfgnkakcnhojaa.Nm hiding ret_bool ret_int

theorem val_at (P : List (As × Int)) (m : ByteArray → Int) (k : Nat) (hk : k < P.length) (x : As × Int) (hx : P.take (k + 1) = P.take k ++ [x]) : val (P.take (k + 1)) m = val (P.take k) m + ((gl P m).map Prod.snd).getD k 0 := by
  have h := gl_at P m k P.length hk (Nat.le_refl _) x hx
  rw [List.take_of_length_le (Nat.le_refl _)] at h
  rw [List.getD_eq_getElem?_getD, h, hx, gl_snd]
  rfl
set_option maxRecDepth 100000 in
set_option maxHeartbeats 2000000 in
theorem rvalue_no (aA aI aL : Option Addr) (cA cI cL : Nat) (A : List As) (I L : List (ByteArray × Int)) (w : World) (hnA : A.length ≤ 1000) (hnI : I.length ≤ 1000) (hnL : L.length ≤ 1000) (hZA : SzA A) (hZI : SzL I) (hZL : SzL L) (hA : AtL w 6 asc aA A) (hI : AtL w 2 isc aI I) (hL : AtL w 2 isc aL L) (hF : fitB A I L = false) :
    Calls Try.prog 19 #[.agg #[.slice aA A.length cA, .slice aI I.length cI], .slice aL L.length cL] w fun e w' => e = .returned (.tuple #[.int .i64 0, .int .i64 8]) ∧ Below w.heap.size w w' := by
  have hbo : Below w.heap.size w (w.alloc (.cells #[.slice aA A.length cA, .slice aI I.length cI] 25)) := (Below.refl _ _).alloc (Nat.le_refl _) _
  have HC := Lib.hid (rcounted_no aA aI aL cA cI cL A I L _ hnA hnI hnL hZA hZI hZL (hA.below hbo) (hI.below hbo) (hL.below hbo) hF)
  clear hF hA hI hL
  go_enter Try.func19, Try.ntmps19
  go_wp2_with fail
  refine HC.out.mono ?_
  rintro e w1 ⟨rfl, hb1⟩
  have c1 := bt hbo hb1 (Nat.le_refl _)
  clear HC
  go_wp2
  go_loopw [8, 9] (fun s i wr => s = .int .i64 0 ∧ i = .int .i64 0 ∧ Below w.heap.size w wr) (fun _ _ _ => 0)
  case atStart => exact ⟨rfl, rfl, c1⟩
  case round =>
    obtain ⟨rfl, rfl, hbw⟩ := hrel
    go_wp2
    go_ret2
    exact ⟨rfl, hbw⟩
set_option maxRecDepth 100000 in
set_option maxHeartbeats 2000000 in
theorem rvalue_yes (aA aI aL : Option Addr) (cA cI cL : Nat) (A : List As) (I L : List (ByteArray × Int)) (w : World) (hnA : A.length ≤ 1000) (hnI : I.length ≤ 1000) (hnL : L.length ≤ 1000) (hZA : SzA A) (hZI : SzL I) (hZL : SzL L) (hA : AtL w 6 asc aA A) (hI : AtL w 2 isc aI I) (hL : AtL w 2 isc aL L) (hF : fitB A I L = true) :
    Calls Try.prog 19 #[.agg #[.slice aA A.length cA, .slice aI I.length cI], .slice aL L.length cL] w fun e w' => e = .returned (.tuple #[.int .i64 (val (mkP A L) (moF I)), .int .i64 0]) ∧ Below w.heap.size w w' := by
  have hlL := (fits_of hF).lL
  have hbo : Below w.heap.size w (w.alloc (.cells #[.slice aA A.length cA, .slice aI I.length cI] 25)) := (Below.refl _ _).alloc (Nat.le_refl _) _
  have HC := Lib.hid (rcounted_yes aA aI aL cA cI cL A I L _ hnA hnI hnL hZA hZI hZL (hA.below hbo) (hI.below hbo) (hL.below hbo) hF)
  have HLEN := Lib.hid (mkP_len A L)
  have HIN := Lib.hid (mkP_in (fits_of hF))
  have HM0 := Lib.hid (moF_range (fits_of hF))
  have HVA := Lib.hid (fun k hk => val_at (mkP A L) (moF I) k (by rw [HLEN.out]; exact hk) _ (mkP_take A L k hk))
  have HGL := Lib.hid (gl_len (mkP A L) (moF I))
  generalize mkP A L = P at *
  generalize moF I = M0 at *
  clear hA hI hL hF
  go_enter Try.func19, Try.ntmps19
  go_wp2_with fail
  generalize w.alloc _ = wo at hbo HC ⊢
  refine HC.out.mono ?_
  rintro e w1 ⟨a1, c1', rfl, hO1, hb1⟩
  have c1 := bt hbo hb1 (Nat.le_refl _)
  have HA1 := Lib.hid (hO1.sl ic_len).1
  clear HC hb1 hbo hO1
  go_wp2_with fail
  go_loopw [8, 9] (fun s i wr => ∃ k : Nat, k ≤ L.length ∧ i = .int .i64 k ∧ s = .int .i64 (val (P.take k) M0) ∧ Hid (Below w.heap.size w wr ∧ AtL wr 1 ic a1 ((gl P M0).map Prod.snd))) (fun _ i _ => L.length - (intOf i).toNat)
  case atStart => exact ⟨0, by omega, rfl, rfl, c1, HA1.out⟩
  case round =>
    clear HA1 c1
    obtain ⟨k, hk, rfl, rfl, HW⟩ := hrel
    rcases Nat.lt_or_ge k L.length with hlt | hge
    · have hki : (k : Int) < L.length := by omega
      have hk0 : (0 : Int) ≤ (k : Int) := by omega
      obtain ⟨ob, oo, rfl, qo⟩ := at_int HW.out.2 k (by rw [List.length_map, HGL.out, HLEN.out]; exact hlt)
      have HV := Lib.hid (HVA.out k hlt)
      have hvr := val_range (P := P.take k) (fun y hy => HIN.out y (List.mem_of_mem_take hy)) (m := M0) (fun t => (HM0.out t).1)
      have hvr2 := val_range (P := P.take (k + 1)) (fun y hy => HIN.out y (List.mem_of_mem_take hy)) (m := M0) (fun t => (HM0.out t).1)
      have hkl : (P.take k).length ≤ 32 := by rw [List.length_take]; omega
      have hkl2 : (P.take (k + 1)).length ≤ 32 := by rw [List.length_take, HLEN.out]; omega
      generalize ((gl P M0).map Prod.snd).getD k 0 = z at *
      have hz := HV.out
      have HWR := Lib.hid (show IntKind.i64.wrap (val (P.take k) M0 + z) = val (P.take k) M0 + z by rw [IntKind.wrap_i64]; omega)
      clear hz hvr hvr2 hkl hkl2
      have hwr := HWR.out
      go_wp2
      go_roundw
      case rel => exact ⟨k + 1, by omega, by go_num, by rw [HV.out], HW⟩
      case measure => simp [intOf]; omega
    · obtain rfl : k = L.length := by omega
      rw [List.take_of_length_le (by rw [HLEN.out]; exact Nat.le_refl _)]
      go_wp2
      go_ret2
      exact ⟨rfl, HW.out.1⟩
end Go.Proofs.Ytbfgnkakcnhojaa.Co
