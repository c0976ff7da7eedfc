/-
  Margin: the walk of margin.product.
-/
import Derived.Test.YtmljjofpbonplaaMg2
namespace Go.Proofs.Ytmljjofpbonplaa.Mg
open Go.RowKit Go.Proofs.Ytmljjofpbonplaa Go.Proofs.Ytmljjofpbonplaa.Nm

theorem cell_of {w : World} {B : Nat} {cs : Array Value} {t : TypeId} {fz : Nat × Nat} (h : w.heap[B]? = some (.cells cs t fz)) (i : Nat) (v : Value) (hv : cs[i]? = some v) : w.cell? ⟨B, i, none⟩ = some v := by
  simp [World.cell?, h, hv]
theorem frozen_of {w : World} {B : Nat} {cs : Array Value} {t : TypeId} (h : w.heap[B]? = some (.cells cs t (0, 0))) (i : Nat) : w.frozen? ⟨B, i, none⟩ = false := by
  simp [World.frozen?, h]
theorem blk_keep {w w' : World} {B : Nat} {o : Obj} (h : w.heap[B]? = some o) (hb : Below w.heap.size w w') : w'.heap[B]? = some o := by
  have hlt : B < w.heap.size := by
    rcases Nat.lt_or_ge B w.heap.size with g | g
    · exact g
    · rw [Array.getElem?_eq_none (by omega)] at h
      cases h
  rw [hb.block B hlt, h]
theorem blk_new (w : World) (o : Obj) : (w.alloc o).heap[w.heap.size]? = some o := by
  show (w.heap.push o)[w.heap.size]? = _
  simp
theorem blk_past (w : World) (o : Obj) {B : Nat} {x : Obj} (h : w.heap[B]? = some x) : (w.alloc o).heap[B]? = some x := blk_keep h ((Below.refl _ _).alloc (Nat.le_refl _) _)
theorem blk_two (w : World) (o p : Obj) : ((w.alloc o).alloc p).heap[w.heap.size]? = some o ∧ ((w.alloc o).alloc p).heap[w.heap.size + 1]? = some p := by
  refine ⟨blk_past _ _ (blk_new _ _), ?_⟩
  have := blk_new (w.alloc o) p
  rwa [World.size_alloc] at this

theorem set3 {w : World} {B : Nat} {a b c : Value} {t : TypeId} (h : w.heap[B]? = some (.cells #[a, b, c] t (0, 0))) (x y z : Value) :
    (((w.setCell ⟨B, 0, none⟩ x).setCell ⟨B, 1, none⟩ y).setCell ⟨B, 2, none⟩ z).heap[B]? = some (.cells #[x, y, z] t (0, 0)) := by
  simp [World.setCell, Array.getElem?_modify, h]

set_option maxRecDepth 100000 in
set_option maxHeartbeats 1000000 in
theorem product_yes (wa pa : Option Addr) (nw wc np pc : Nat) (P : Nat → PD) (t : ByteArray) (I : Nat) (w : World) (hn : np ≤ 1000) (hA : ProdsAt w pa np P) (hS : Sorted np (fun i => (P i).nm)) (hI : I < np) (ht : (P I).nm = t) :
    Calls Try.prog 40 #[.agg #[.slice wa nw wc, .slice pa np pc], .string t] w fun e w' => e = .returned (.tuple #[.agg #[.string t, .slice (P I).a (P I).len (P I).cap, .int .i64 (P I).fee], .bool true]) ∧ Below w.heap.size w w' := by
  have HS := Lib.hid (hS.at I hI)
  have HF := Lib.hid (show true = (decide (I < np) && (cmpS (P I).nm t == 0)) by rw [decide_eq_true hI, (cmpS_zero _ _).2 ht]; rfl)
  have HA := Lib.hid hA
  have HT := Lib.hid ht
  clear hA hS ht
  go_enter Try.func40, Try.ntmps40
  go_wp2_with fail
  have hblk := blk_two w (.cells #[.slice wa nw wc, .slice pa np pc] 25) (.cells #[.string ⟨#[]⟩, .slice none 0 0, .int .i64 0] 54)
  have hbo : Below w.heap.size w ((w.alloc (.cells #[.slice wa nw wc, .slice pa np pc] 25)).alloc (.cells #[.string ⟨#[]⟩, .slice none 0 0, .int .i64 0] 54)) := ((Below.refl _ _).alloc (Nat.le_refl _) _).alloc (by simp) _
  generalize (w.alloc _).alloc _ = wo at hblk hbo ⊢
  refine (prod_search pa np pc P t I true wo hn (HA.out.below hbo) (Nat.le_of_lt hI) (by have := HS.out.1; rw [HT.out] at this; exact this) (by have := HS.out.2; rw [HT.out] at this; exact this) HF.out).mono ?_
  rintro e w2 ⟨rfl, hb2⟩
  have hb3 : Below w.heap.size w w2 := bt hbo hb2 (Nat.le_refl _)
  obtain ⟨k1, k2⟩ := hblk
  have k1 := blk_keep k1 hb2
  have k2 := blk_keep k2 hb2
  have c1 : w2.cell? ⟨w.heap.size, 1, none⟩ = some (.slice pa np pc) := cell_of k1 1 _ rfl
  have r0 : w2.cell? ⟨w.heap.size + 1, 0, none⟩ = some (.string ⟨#[]⟩) := cell_of k2 0 _ rfl
  have r1 : w2.cell? ⟨w.heap.size + 1, 1, none⟩ = some (.slice none 0 0) := cell_of k2 1 _ rfl
  have r2 : w2.cell? ⟨w.heap.size + 1, 2, none⟩ = some (.int .i64 0) := cell_of k2 2 _ rfl
  have f0 : w2.frozen? ⟨w.heap.size + 1, 0, none⟩ = false := frozen_of k2 0
  have f1 : w2.frozen? ⟨w.heap.size + 1, 1, none⟩ = false := frozen_of k2 1
  have f2 : w2.frozen? ⟨w.heap.size + 1, 2, none⟩ = false := frozen_of k2 2
  have HK := Lib.hid (And.intro k1 k2)
  clear k1 k2 hbo
  obtain ⟨b, off, rfl, q0, q1, q2, _⟩ := (HA.out.below hb3) I hI
  rw [HT.out] at q0
  have hi0 : (I : Int) < (np : Int) := by omega
  have hbs : b < w2.heap.size := World.block_lt_of_cell? _ _ q0
  go_wp2
  have k2 := set3 HK.out.2 (.string t) (.slice (P I).a (P I).len (P I).cap) (.int .i64 (P I).fee)
  have g0 := cell_of k2 0 _ rfl
  have g1 := cell_of k2 1 _ rfl
  have g2 := cell_of k2 2 _ rfl
  refine bodyPost_ret (v := .tuple #[.agg #[.string t, .slice (P I).a (P I).len (P I).cap, .int .i64 (P I).fee], .bool true]) (by simp [results, Try.results40, go_sem, g0, g1, g2]) rfl ⟨rfl, ?_⟩
  exact ((hb3.setCell (by simp) _).setCell (by simp) _).setCell (by simp) _

set_option maxRecDepth 100000 in
set_option maxHeartbeats 1000000 in
theorem product_no (wa pa : Option Addr) (nw wc np pc : Nat) (P : Nat → PD) (t : ByteArray) (w : World) (hn : np ≤ 1000) (hA : ProdsAt w pa np P) (hS : Sorted np (fun i => (P i).nm)) (ht : ∀ i, i < np → (P i).nm ≠ t) :
    Calls Try.prog 40 #[.agg #[.slice wa nw wc, .slice pa np pc], .string t] w fun e w' => e = .returned (.tuple #[.agg #[.string ⟨#[]⟩, .slice none 0 0, .int .i64 0], .bool false]) ∧ Below w.heap.size w w' := by
  obtain ⟨J, hJ, h1, h2⟩ := hS.place t
  have HF : Hid (false = (decide (J < np) && (cmpS (P J).nm t == 0))) := by
    unfold Hid
    rcases Nat.lt_or_ge J np with g | g
    · have : (cmpS (P J).nm t == 0) = false := by rw [beq_eq_false_iff_ne]; exact fun k => ht J g ((cmpS_zero _ _).1 k)
      rw [this, Bool.and_false]
    · rw [decide_eq_false (by omega), Bool.false_and]
  have H1 := Lib.hid h1
  have H2 := Lib.hid h2
  have HA := Lib.hid hA
  clear hA hS ht h1 h2
  go_enter Try.func40, Try.ntmps40
  go_wp2_with fail
  have hblk := blk_two w (.cells #[.slice wa nw wc, .slice pa np pc] 25) (.cells #[.string ⟨#[]⟩, .slice none 0 0, .int .i64 0] 54)
  have hbo : Below w.heap.size w ((w.alloc (.cells #[.slice wa nw wc, .slice pa np pc] 25)).alloc (.cells #[.string ⟨#[]⟩, .slice none 0 0, .int .i64 0] 54)) := ((Below.refl _ _).alloc (Nat.le_refl _) _).alloc (by simp) _
  generalize (w.alloc _).alloc _ = wo at hblk hbo ⊢
  refine (prod_search pa np pc P t J false wo hn (HA.out.below hbo) hJ H1.out H2.out HF.out).mono ?_
  rintro e w2 ⟨rfl, hb2⟩
  have hb3 : Below w.heap.size w w2 := bt hbo hb2 (Nat.le_refl _)
  obtain ⟨k1, k2⟩ := hblk
  have k1 := blk_keep k1 hb2
  have k2 := blk_keep k2 hb2
  have c1 : w2.cell? ⟨w.heap.size, 1, none⟩ = some (.slice pa np pc) := cell_of k1 1 _ rfl
  have r0 : w2.cell? ⟨w.heap.size + 1, 0, none⟩ = some (.string ⟨#[]⟩) := cell_of k2 0 _ rfl
  have r1 : w2.cell? ⟨w.heap.size + 1, 1, none⟩ = some (.slice none 0 0) := cell_of k2 1 _ rfl
  have r2 : w2.cell? ⟨w.heap.size + 1, 2, none⟩ = some (.int .i64 0) := cell_of k2 2 _ rfl
  have f0 : w2.frozen? ⟨w.heap.size + 1, 0, none⟩ = false := frozen_of k2 0
  have f1 : w2.frozen? ⟨w.heap.size + 1, 1, none⟩ = false := frozen_of k2 1
  have f2 : w2.frozen? ⟨w.heap.size + 1, 2, none⟩ = false := frozen_of k2 2
  have HK := Lib.hid (And.intro k1 k2)
  clear k1 k2 hbo
  go_wp2
  have k2 := set3 HK.out.2 (.string ⟨#[]⟩) (.slice none 0 0) (.int .i64 0)
  have g0 := cell_of k2 0 _ rfl
  have g1 := cell_of k2 1 _ rfl
  have g2 := cell_of k2 2 _ rfl
  refine bodyPost_ret (v := .tuple #[.agg #[.string ⟨#[]⟩, .slice none 0 0, .int .i64 0], .bool false]) (by simp [results, Try.results40, go_sem, g0, g1, g2]) rfl ⟨rfl, ?_⟩
  exact ((hb3.setCell (by simp) _).setCell (by simp) _).setCell (by simp) _
end Go.Proofs.Ytmljjofpbonplaa.Mg
