/-
  Margin's reference: the walks of product, Check, loss, counted.
-/
import Derived.Test.YtmljjofpbonplaaMg12
namespace Go.Proofs.Ytmljjofpbonplaa.Mg
open Go.RowKit Go.Proofs.Ytmljjofpbonplaa Go.Proofs.Ytmljjofpbonplaa.Nm

theorem idx_first {P : Nat → PD} {np : Nat} {t : ByteArray} (hS : Sorted np (fun i => (P i).nm)) (i : Nat) (hi : i < np) (e : (P i).nm = t) : idx P np t = i := by
  have h1 := idx_spec (hasB_of i hi e)
  exact hS.inj _ _ h1.1 hi (by rw [h1.2, e])
theorem hasB_none {P : Nat → PD} {np : Nat} {t : ByteArray} (h : ∀ i, i < np → (P i).nm ≠ t) : hasB P np t = false := by
  rw [Bool.eq_false_iff]
  intro k
  obtain ⟨i, hi, e⟩ := hasB_yes k
  exact h i hi e

/-- the product of a name, or the zero product -/
def prodV (P : Nat → PD) (np : Nat) (t : ByteArray) : Value := if hasB P np t = true then .agg #[.string t, .slice (P (idx P np t)).a (P (idx P np t)).len (P (idx P np t)).cap, .int .i64 (P (idx P np t)).fee] else .agg #[.string ⟨#[]⟩, .slice none 0 0, .int .i64 0]

set_option maxRecDepth 100000 in
set_option maxHeartbeats 1000000 in
theorem refProduct_any (wa pa : Option Addr) (nw wc np pc : Nat) (P : Nat → PD) (t : ByteArray) (w : World) (hn : np ≤ 1000) (hA : ProdsAt w pa np P) (hS : Sorted np (fun i => (P i).nm)) :
    Calls Try.prog 41 #[.agg #[.slice wa nw wc, .slice pa np pc], .string t] w fun e w' => e = .returned (.tuple #[prodV P np t, .bool (hasB P np t)]) ∧ Below w.heap.size w w' := by
  have HA := Lib.hid hA
  have HS := Lib.hid hS
  have hblk := blk_two w (.cells #[.slice wa nw wc, .slice pa np pc] 25) (.cells #[.string ⟨#[]⟩, .slice none 0 0, .int .i64 0] 54)
  have hbo : Below w.heap.size w ((w.alloc (.cells #[.slice wa nw wc, .slice pa np pc] 25)).alloc (.cells #[.string ⟨#[]⟩, .slice none 0 0, .int .i64 0] 54)) := ((Below.refl _ _).alloc (Nat.le_refl _) _).alloc (by simp) _
  have HX := Lib.hid hblk
  have HB := Lib.hid hbo
  clear hA hS hblk hbo
  go_enter Try.func41, Try.ntmps41
  go_wp2_with fail
  generalize (w.alloc _).alloc _ = wo at HX HB ⊢
  go_loopw [6] (fun c wr => ∃ k : Nat, k ≤ np ∧ c = .int .i64 k ∧ Hid (∀ i, i < k → (P i).nm ≠ t) ∧ wr = wo) (fun c _ => np - (intOf c).toNat)
  case atStart => exact ⟨0, by omega, rfl, Lib.hid (fun i hi => by omega), rfl⟩
  case round =>
    obtain ⟨k, hk, rfl, HG, rfl⟩ := hrel
    have x0 : wr.cell? ⟨w.heap.size, 0, none⟩ = some (.slice wa nw wc) := cell_of HX.out.1 0 _ rfl
    have x1 : wr.cell? ⟨w.heap.size, 1, none⟩ = some (.slice pa np pc) := cell_of HX.out.1 1 _ rfl
    have r0 : wr.cell? ⟨w.heap.size + 1, 0, none⟩ = some (.string ⟨#[]⟩) := cell_of HX.out.2 0 _ rfl
    have r1 : wr.cell? ⟨w.heap.size + 1, 1, none⟩ = some (.slice none 0 0) := cell_of HX.out.2 1 _ rfl
    have r2 : wr.cell? ⟨w.heap.size + 1, 2, none⟩ = some (.int .i64 0) := cell_of HX.out.2 2 _ rfl
    have f0 : wr.frozen? ⟨w.heap.size + 1, 0, none⟩ = false := frozen_of HX.out.2 0
    have f1 : wr.frozen? ⟨w.heap.size + 1, 1, none⟩ = false := frozen_of HX.out.2 1
    have f2 : wr.frozen? ⟨w.heap.size + 1, 2, none⟩ = false := frozen_of HX.out.2 2
    by_cases hlt : k < np
    · obtain ⟨b, off, rfl, q0, q1, q2, _⟩ := (HA.out.below HB.out) k hlt
      by_cases hq : (P k).nm = t
      · have HI := Lib.hid (idx_first HS.out k hlt hq)
        have HH := Lib.hid (hasB_of k hlt hq)
        have hq2 : ((P k).nm.toList == t.toList) = true := by rw [hq]; exact beq_self_eq_true _
        have HQ := Lib.hid hq
        clear hq
        go_wp2
        have k2 := set3 HX.out.2 (.string (P k).nm) (.slice (P k).a (P k).len (P k).cap) (.int .i64 (P k).fee)
        have g0 := cell_of k2 0 _ rfl
        have g1 := cell_of k2 1 _ rfl
        have g2 := cell_of k2 2 _ rfl
        have HPV := Lib.hid (show prodV P np t = .agg #[.string (P k).nm, .slice (P k).a (P k).len (P k).cap, .int .i64 (P k).fee] by unfold prodV; rw [if_pos HH.out, HI.out, HQ.out])
        refine bodyPost_ret (v := .tuple #[.agg #[.string (P k).nm, .slice (P k).a (P k).len (P k).cap, .int .i64 (P k).fee], .bool true]) (by simp [results, Try.results41, go_sem, g0, g1, g2]) rfl ⟨by rw [HPV.out, HH.out], ?_⟩
        exact ((HB.out.setCell (by simp) _).setCell (by simp) _).setCell (by simp) _
      · have HG2 : Hid (∀ i, i < k + 1 → (P i).nm ≠ t) := fun i hi => by
          rcases Nat.lt_or_ge i k with g | g
          · exact HG.out i g
          · obtain rfl : i = k := by omega
            exact hq
        have hq2 : ((P k).nm.toList == t.toList) = false := beq_eq_false_iff_ne.2 (fun h => hq (str_ext h))
        clear hq
        go_wp2
        go_roundw
        case rel => exact ⟨k + 1, by omega, by go_num, HG2, by simp⟩
        case measure => simp [intOf]; omega
    · have HH := Lib.hid (hasB_none (P := P) (np := np) (t := t) (fun i hi => HG.out i (by omega)))
      have HPV := Lib.hid (show prodV P np t = .agg #[.string ⟨#[]⟩, .slice none 0 0, .int .i64 0] by unfold prodV; rw [HH.out]; rfl)
      go_wp2
      have k2 := set3 HX.out.2 (.string ⟨#[]⟩) (.slice none 0 0) (.int .i64 0)
      have g0 := cell_of k2 0 _ rfl
      have g1 := cell_of k2 1 _ rfl
      have g2 := cell_of k2 2 _ rfl
      refine bodyPost_ret (v := .tuple #[.agg #[.string ⟨#[]⟩, .slice none 0 0, .int .i64 0], .bool false]) (by simp [results, Try.results41, go_sem, g0, g1, g2]) rfl ⟨by rw [HPV.out, HH.out], ?_⟩
      exact ((HB.out.setCell (by simp) _).setCell (by simp) _).setCell (by simp) _
end Go.Proofs.Ytmljjofpbonplaa.Mg
