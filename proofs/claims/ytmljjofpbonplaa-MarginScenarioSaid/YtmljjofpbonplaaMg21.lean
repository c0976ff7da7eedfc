/-
  Margin's reference: the walk of Same.
-/
import Derived.Test.YtmljjofpbonplaaMg20
import Derived.Laws.StructEq
namespace Go.Proofs.Ytmljjofpbonplaa.Mg
open Go.RowKit Go.Proofs.Ytmljjofpbonplaa Go.Proofs.Ytmljjofpbonplaa.Nm Go.Proofs.Ytmljjofpbonplaa.Ls

theorem getElem?_lt {α : Type} {xs : List α} {i : Nat} (h : i < xs.length) : xs[i]? = some xs[i] := List.getElem?_eq_getElem h
theorem neq_run (x y : ByteArray × Int) (b : Bool) (hb : decide (x ≠ y) = b) (w : World) : (binOp .neq 51 (.agg #[.string x.1, .int .i64 x.2]) (.agg #[.string y.1, .int .i64 y.2])).run Try.prog w = .ok (.bool b) w := by
  rw [run_neq_struct, run_equalIn_struct w 9999 _ _ _ (by kernel_rfl) (by kernel_rfl)]
  have hf : (Try.prog.fieldsOf 51).toList = [⟨"Product", 9, 0, false, "", "", 0⟩, ⟨"Quantity", 3, 1, false, "", "", 16⟩] := by kernel_rfl
  rw [hf]
  obtain ⟨s, p⟩ := x
  obtain ⟨t, q⟩ := y
  subst hb
  by_cases h1 : s = t
  · subst h1
    by_cases h2 : p = q
    · subst h2
      simp [Op.eqFields, part, go_sem]
    · simp [Op.eqFields, part, go_sem, h2]
  · have h3 : ¬ s.toList = t.toList := fun h => h1 (str_ext h)
    simp [Op.eqFields, part, go_sem, h1, h3]
theorem guard_run (x y : Operand) (xs ys : Array Value) (w : World) : (eqGuard .neq 51 x y (.agg xs) (.agg ys)).run Try.prog w = .ok () w := run_eqGuard_agg w .neq _ x y xs ys (by kernel_rfl)
set_option maxRecDepth 100000 in
set_option maxHeartbeats 2000000 in
theorem refSame_any (a b : Option Addr) (c d : Nat) (xs ys : PL) (w : World) (hx : xs.length ≤ maxLen) (hA : AtL w 2 pc a xs) (hB : AtL w 2 pc b ys) :
    Calls Try.prog 29 #[.slice a xs.length c, .slice b ys.length d] w fun e w' => e = .returned (.bool (decide (xs = ys))) ∧ Below w.heap.size w w' := by
  unfold maxLen at hx
  have HA := Lib.hid hA
  have HB := Lib.hid hB
  clear hA hB
  by_cases hl : xs.length = ys.length
  · have HL := Lib.hid hl
    rw [← hl]
    clear hl
    go_enter Try.func29, Try.ntmps29
    go_wp2_with fail
    go_loopw [5] (fun i wr => ∃ k : Nat, k ≤ xs.length ∧ i = .int .i64 k ∧ Hid (xs.take k = ys.take k) ∧ Below w.heap.size w wr) (fun i _ => xs.length - (intOf i).toNat)
    case atStart => exact ⟨0, by omega, rfl, rfl, Below.refl _ _⟩
    case round =>
      obtain ⟨k, hk, rfl, HT, hbw⟩ := hrel
      by_cases hlt : k < xs.length
      · have hlt2 : k < ys.length := by rw [← HL.out]; exact hlt
        obtain ⟨bx, ox, rfl, hcx⟩ := (HA.out.below hbw) k _ (getElem?_lt hlt)
        obtain ⟨b_, oy, rfl, hcy⟩ := (HB.out.below hbw) k _ (getElem?_lt hlt2)
        have HTX := Lib.hid (show xs.take (k + 1) = xs.take k ++ [xs[k]] from List.take_succ_eq_append_getElem hlt)
        have HTY := Lib.hid (show ys.take (k + 1) = ys.take k ++ [ys[k]] from List.take_succ_eq_append_getElem hlt2)
        have HNE := Lib.hid (show xs[k] ≠ ys[k] → xs ≠ ys from fun h e => h (by subst e; rfl))
        have q0x : wr.cell? ⟨bx, ox + k * 2, none⟩ = some (.string xs[k].1) := hcx 0 _ rfl
        have q1x : wr.cell? ⟨bx, ox + k * 2 + 1, none⟩ = some (.int .i64 xs[k].2) := hcx 1 _ rfl
        have q0y : wr.cell? ⟨b_, oy + k * 2, none⟩ = some (.string ys[k].1) := hcy 0 _ rfl
        have q1y : wr.cell? ⟨b_, oy + k * 2 + 1, none⟩ = some (.int .i64 ys[k].2) := hcy 1 _ rfl
        clear hcx hcy
        generalize xs[k] = x at *
        generalize ys[k] = y at *
        clear hlt2
        have k0 : (0 : Int) ≤ k := by omega
        have k1 : (k : Int) < xs.length := by omega
        have hgd := guard_run
        by_cases hxy : x = y
        · have hr := fun w => neq_run x y false (by simp [hxy]) w
          have HT2 : Hid (xs.take (k + 1) = ys.take (k + 1)) := by unfold Hid; rw [HTX.out, HTY.out, HT.out, hxy]
          clear hxy HTX HTY HNE
          go_wp2_with fail
          go_quiet (fail)
          go_wp2
          go_roundw
          case rel => exact ⟨k + 1, by omega, by go_num, HT2, below_drewN hbw _⟩
          case measure => simp [intOf]; omega
        · have hr := fun w => neq_run x y true (by simp [hxy]) w
          have HE : Hid (decide (xs = ys) = false) := decide_eq_false (HNE.out hxy)
          clear hxy HTX HTY HNE
          go_wp2_with fail
          go_quiet (fail)
          go_wp2
          go_ret
          exact ⟨ret_bool HE.out.symm, below_drewN hbw _⟩
      · have HE : Hid (decide (xs = ys) = true) := by
          have := HT.out
          rw [List.take_of_length_le (by omega), List.take_of_length_le (by rw [← HL.out]; omega)] at this
          exact decide_eq_true this
        go_wp2
        go_ret
        exact ⟨ret_bool HE.out.symm, hbw⟩
  · have HE := Lib.hid (show decide (xs = ys) = false from decide_eq_false (fun e => hl (by rw [e])))
    have hl2 : ((xs.length : Int) != ys.length) = true := by rw [bne_iff_ne]; omega
    go_enter Try.func29, Try.ntmps29
    go_wp2
    go_ret
    exact ⟨ret_bool HE.out.symm, Below.refl _ _⟩
end Go.Proofs.Ytmljjofpbonplaa.Mg
