/-
  Margin: grids in memory; the walks of slices.BinarySearchFunc at products, and of margin.product.
-/
import Derived.Test.YtmljjofpbonplaaMg1
import Derived.Test.YtmljjofpbonplaaNm2
namespace Go.Proofs.Ytmljjofpbonplaa.Mg
open Go.RowKit Go.Proofs.Ytmljjofpbonplaa Go.Proofs.Ytmljjofpbonplaa.Nm

/-- a product: its name, its moves (their header in memory, and what they are), its fee -/
structure PD where
  nm : ByteArray
  a : Option Addr
  len : Nat
  cap : Nat
  mv : Nat → Int
  fee : Int

/-- a slice of numbers in memory -/
def IntsAt (w : World) (a : Option Addr) (n : Nat) (f : Nat → Int) : Prop :=
  ∀ i, i < n → ∃ b off, a = some ⟨b, off, none⟩ ∧ w.cell? ⟨b, off + i, none⟩ = some (.int .i64 (f i))
theorem IntsAt.below {w w' : World} {a : Option Addr} {n : Nat} {f : Nat → Int} (h : IntsAt w a n f) (hb : Below w.heap.size w w') : IntsAt w' a n f := fun i hi => by
  obtain ⟨b, off, ha, h1⟩ := h i hi
  exact ⟨b, off, ha, keep h1 hb⟩
/-- a slice of products in memory -/
def ProdsAt (w : World) (a : Option Addr) (n : Nat) (P : Nat → PD) : Prop :=
  ∀ i, i < n → ∃ b off, a = some ⟨b, off, none⟩ ∧ w.cell? ⟨b, off + i * 3, none⟩ = some (.string (P i).nm) ∧ w.cell? ⟨b, off + i * 3 + 1, none⟩ = some (.slice (P i).a (P i).len (P i).cap) ∧
    w.cell? ⟨b, off + i * 3 + 2, none⟩ = some (.int .i64 (P i).fee) ∧ IntsAt w (P i).a (P i).len (P i).mv
theorem ProdsAt.below {w w' : World} {a : Option Addr} {n : Nat} {P : Nat → PD} (h : ProdsAt w a n P) (hb : Below w.heap.size w w') : ProdsAt w' a n P := fun i hi => by
  obtain ⟨b, off, ha, h1, h2, h3, h4⟩ := h i hi
  exact ⟨b, off, ha, keep h1 hb, keep h2 hb, keep h3 hb, h4.below hb⟩
theorem ProdsAt.prev {w : World} {b off : Nat} {n : Nat} {P : Nat → PD} (h : ProdsAt w (some ⟨b, off, none⟩) n P) (k : Nat) (hk : k < n) : w.cell? ⟨b, off + (k - 1) * 3, none⟩ = some (.string (P (k - 1)).nm) := by
  obtain ⟨b', off', ha, h1, _⟩ := h (k - 1) (by omega)
  cases ha
  exact h1

/-- the closure that compares an element's name -/
theorem prod_cmp (s : ByteArray) (a : Option Addr) (l c : Nat) (f : Int) (t : ByteArray) (w : World) :
    Calls Try.prog 55 #[.agg #[.string s, .slice a l c, .int .i64 f], .string t] w fun e w' => e = .returned (.int .i64 (cmpS s t)) ∧ Below w.heap.size w w' := by
  go_enter Try.func55, Try.ntmps55
  go_wp2_with fail
  refine (compare_any _ _ _).mono ?_
  rintro e w' ⟨rfl, rfl⟩
  go_wp2
  go_ret
  exact ⟨rfl, (Below.refl _ _).alloc (Nat.le_refl _) _⟩

set_option maxRecDepth 100000 in
set_option maxHeartbeats 4000000 in
theorem prod_search (a : Option Addr) (n cap : Nat) (P : Nat → PD) (t : ByteArray) (J : Nat) (F : Bool) (w : World) (hn : n ≤ 1000) (hA : ProdsAt w a n P) (hJ : J ≤ n)
    (h1 : ∀ i, i < J → lt (P i).nm t = true) (h2 : ∀ i, J ≤ i → i < n → lt (P i).nm t = false) (hF : F = (decide (J < n) && (cmpS (P J).nm t == 0))) :
    Calls Try.prog 54 #[.slice a n cap, .string t, .func (.func 55) #[] #[]] w fun e w' => e = .returned (.tuple #[.int .i64 J, .bool F]) ∧ Below w.heap.size w w' := by
  have HA := Lib.hid hA
  have H1 := Lib.hid h1
  have H2 := Lib.hid h2
  have HF := Lib.hid hF
  clear hA h1 h2 hF
  go_enter Try.func54, Try.ntmps54
  go_wp2_with fail
  go_loopw [9, 10, 11] (fun x y _ wr => ∃ i j : Nat, i ≤ J ∧ J ≤ j ∧ j ≤ n ∧ x = .int .i64 i ∧ y = .int .i64 j ∧ Below w.heap.size w wr) (fun x y _ _ => (intOf y - intOf x).toNat)
  case atStart => exact ⟨0, n, by omega, hJ, by omega, rfl, rfl, Below.refl _ _⟩
  case round =>
    obtain ⟨i, j, hi, hj, hjn, rfl, rfl, hbw⟩ := hrel
    by_cases hlt : i < j
    · obtain ⟨b, off, rfl, q0, q1, q2, _⟩ := (HA.out.below hbw) ((i + j) / 2) (by omega)
      have hbs : b < wr.heap.size := World.block_lt_of_cell? _ _ q0
      have hx := cmpS_neg (P ((i + j) / 2)).nm t
      by_cases hm : (i + j) / 2 < J
      · have hneg : cmpS (P ((i + j) / 2)).nm t < 0 := hx.2 (H1.out _ hm)
        clear hx
        go_wp2_with fail
        refine (prod_cmp _ _ _ _ _ _ _).mono ?_
        rintro e w2 ⟨rfl, hb2⟩
        have hb3 : Below w.heap.size w w2 := bt hbw hb2 (Nat.le_refl _)
        go_wp2
        go_roundw
        case rel => exact ⟨(i + j) / 2 + 1, j, by omega, by omega, by omega, by go_num, rfl, hb3⟩
        case measure => simp [intOf]; omega
      · have hneg : ¬ cmpS (P ((i + j) / 2)).nm t < 0 := fun g => by
          have := hx.1 g
          rw [H2.out _ (by omega) (by omega)] at this
          cases this
        clear hx
        go_wp2_with fail
        refine (prod_cmp _ _ _ _ _ _ _).mono ?_
        rintro e w2 ⟨rfl, hb2⟩
        have hb3 : Below w.heap.size w w2 := bt hbw hb2 (Nat.le_refl _)
        go_wp2
        go_roundw
        case rel => exact ⟨i, (i + j) / 2, by omega, by omega, by omega, rfl, by go_num, hb3⟩
        case measure => simp [intOf]; omega
    · obtain rfl : i = J := by omega
      by_cases hend : i < n
      · have hd : decide (i < n) = true := decide_eq_true hend
        have HF2 := Lib.hid (show F = (cmpS (P i).nm t == 0) by rw [HF.out, hd]; rfl)
        obtain ⟨b, off, rfl, q0, q1, q2, _⟩ := (HA.out.below hbw) i hend
        have hbs : b < wr.heap.size := World.block_lt_of_cell? _ _ q0
        go_wp2_with fail
        refine (prod_cmp _ _ _ _ _ _ _).mono ?_
        rintro e w2 ⟨rfl, hb2⟩
        have hb3 : Below w.heap.size w w2 := bt hbw hb2 (Nat.le_refl _)
        go_wp2
        go_ret2
        exact ⟨by rw [HF2.out]; rfl, hb3⟩
      · have hd : decide (i < n) = false := decide_eq_false hend
        have HF2 := Lib.hid (show F = false by rw [HF.out, hd]; rfl)
        go_wp2
        go_ret2
        exact ⟨by rw [HF2.out]; rfl, hbw⟩

end Go.Proofs.Ytmljjofpbonplaa.Mg
