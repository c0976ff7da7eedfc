/-
  The walk of the law DateOrder.
-/
import Derived.Test.YtaogoednndlaeaaDatePlain2
import Derived.BigQuiet
import Derived.Deep.QuietTactic
import Derived.OpenShut
import Derived.ProofKit
import Derived.Lib.SmallJoins
namespace Go.Proofs.Ytaogoednndlaeaa.Dt
open Go.RowKit Go.Proofs.Ytaogoednndlaeaa

/-- three numbers by their index -/
def A3 (a b c : Int) (k : Nat) : Int := if k = 0 then a else if k = 1 then b else c
def sameK (a b : Nat → Int) : Nat → Bool
  | 0 => true
  | k + 1 => sameK a b k && (a k == b k)
def lessK (a b : Nat → Int) : Nat → Bool
  | 0 => false
  | k + 1 => lessK a b k || (sameK a b k && decide (a k < b k))

theorem less3 {a0 a1 a2 b0 b1 b2 p q : Int} (h : IsDate a0 a1 a2 p) (h' : IsDate b0 b1 b2 q) :
    (decide (p < q) == lessK (A3 a0 a1 a2) (A3 b0 b1 b2) 3) = true ∧ ((p == q) == sameK (A3 a0 a1 a2) (A3 b0 b1 b2) 3) = true := by
  have hx := lex_iff h h'
  have hx' := lex_iff h' h
  have hs : p = q ↔ a0 = b0 ∧ a1 = b1 ∧ a2 = b2 := by
    refine ⟨fun e => ?_, fun ⟨e1, e2, e3⟩ => ?_⟩
    · subst e
      exact h.unique h'
    · subst e1 e2 e3
      exact h.num.symm.trans h'.num
  constructor
  · rw [beq_iff_eq, Bool.eq_iff_iff, decide_eq_true_iff, hx]
    simp [lessK, sameK, A3]
    omega
  · rw [beq_iff_eq, Bool.eq_iff_iff, beq_iff_eq, hs]
    simp [sameK, A3, and_assoc]

theorem of_split (y m d : Int) : (∃ n, IsDate y m d n ∧ ofV y m d = n ∧ ofE y m d = 0) ∨ (ofV y m d = 0 ∧ ofE y m d = 2) := by
  by_cases h : vld y m d = true
  · obtain ⟨b1, b2, b3, b4, b5, b6, b7⟩ := (vld_iff _ _ _).1 h
    refine .inl ⟨_, IsDate.mk b1 b2 b3 b4 b5 b6, ?_, ?_⟩
    · unfold ofV
      rw [if_pos h]
    · unfold ofE
      rw [if_pos h]
  · refine .inr ⟨?_, ?_⟩
    · unfold ofV
      rw [if_neg h]
    · unfold ofE
      rw [if_neg h]

/-- both arrays in memory -/
def Two (w : World) (B : Nat) (a b : Nat → Int) : Prop :=
  (∀ k, k < 3 → w.cell? ⟨B, k, none⟩ = some (.int .i64 (a k))) ∧ (∀ k, k < 3 → w.cell? ⟨B + 1, k, none⟩ = some (.int .i64 (b k)))
theorem Two.below {w w' : World} {B : Nat} {a b : Nat → Int} (h : Two w B a b) (hb : Below w.heap.size w w') (hs : B + 1 < w.heap.size) : Two w' B a b :=
  ⟨fun k hk => (hb.cell (p := ⟨B, k, none⟩) (by show B < _; omega)).trans (h.1 k hk), fun k hk => (hb.cell (p := ⟨B + 1, k, none⟩) hs).trans (h.2 k hk)⟩
theorem two_new (w : World) (a0 a1 a2 b0 b1 b2 : Int) (t : TypeId) :
    Two ((w.alloc (.cells #[.int .i64 a0, .int .i64 a1, .int .i64 a2] t)).alloc (.cells #[.int .i64 b0, .int .i64 b1, .int .i64 b2] t)) w.heap.size (A3 a0 a1 a2) (A3 b0 b1 b2) := by
  refine ⟨fun k hk => ?_, fun k hk => ?_⟩
  · rw [World.cell?_alloc_past _ _ _ (by simp), World.cell?_alloc_at _ _ _ _ rfl]
    rcases (show k = 0 ∨ k = 1 ∨ k = 2 by omega) with rfl | rfl | rfl <;> rfl
  · rw [World.cell?_alloc_at _ _ _ _ (by simp)]
    rcases (show k = 0 ∨ k = 1 ∨ k = 2 by omega) with rfl | rfl | rfl <;> rfl

set_option maxRecDepth 100000 in
set_option maxHeartbeats 4000000 in
theorem order_walk (a0 a1 a2 b0 b1 b2 : Int) (w : World) :
    Calls Try.prog 8 #[.agg #[.int .i64 a0, .int .i64 a1, .int .i64 a2], .agg #[.int .i64 b0, .int .i64 b1, .int .i64 b2]] w fun e w' => e = .returned (.bool true) ∧ Below w.heap.size w w' := by
  have HT := Lib.hid (two_new w a0 a1 a2 b0 b1 b2 48)
  have hB0 : Below w.heap.size w ((w.alloc (.cells #[.int .i64 a0, .int .i64 a1, .int .i64 a2] 48)).alloc (.cells #[.int .i64 b0, .int .i64 b1, .int .i64 b2] 48)) := ((Below.refl _ _).alloc (Nat.le_refl _) _).alloc (by simp) _
  have hs0 : w.heap.size + 1 < ((w.alloc (.cells #[.int .i64 a0, .int .i64 a1, .int .i64 a2] 48)).alloc (.cells #[.int .i64 b0, .int .i64 b1, .int .i64 b2] 48)).heap.size := by simp
  have HA := of_split a0 a1 a2
  have HB := of_split b0 b1 b2
  go_enter Try.func8, Try.ntmps8
  go_wp2_with fail
  generalize (w.alloc _).alloc _ = wo at HT hB0 hs0 ⊢
  refine (alive_any _).mono ?_
  rintro e w1 ⟨rfl, hb1⟩
  have HT1 := Lib.hid (HT.out.below hb1 hs0)
  have c1 := bt hB0 hb1 (Nat.le_refl _)
  have hs1 : w.heap.size + 1 < w1.heap.size := Nat.lt_of_lt_of_le hs0 hb1.size
  clear HT hB0 hs0 hb1
  have p0 : w1.cell? ⟨w.heap.size, 0, none⟩ = some (.int .i64 a0) := HT1.out.1 0 (by omega)
  have p1 : w1.cell? ⟨w.heap.size, 1, none⟩ = some (.int .i64 a1) := HT1.out.1 1 (by omega)
  have p2 : w1.cell? ⟨w.heap.size, 2, none⟩ = some (.int .i64 a2) := HT1.out.1 2 (by omega)
  go_wp2_with fail
  refine (of_any _ _ _ _).mono ?_
  rintro e w2 ⟨rfl, hb2⟩
  have HT2 := Lib.hid (HT1.out.below hb2 hs1)
  have c2 := bt c1 hb2 (Nat.le_refl _)
  have hs2 : w.heap.size + 1 < w2.heap.size := Nat.lt_of_lt_of_le hs1 hb2.size
  clear HT1 c1 hs1 hb2 p0 p1 p2
  have p0 : w2.cell? ⟨w.heap.size + 1, 0, none⟩ = some (.int .i64 b0) := HT2.out.2 0 (by omega)
  have p1 : w2.cell? ⟨w.heap.size + 1, 1, none⟩ = some (.int .i64 b1) := HT2.out.2 1 (by omega)
  have p2 : w2.cell? ⟨w.heap.size + 1, 2, none⟩ = some (.int .i64 b2) := HT2.out.2 2 (by omega)
  go_wp2_with fail
  refine (of_any _ _ _ _).mono ?_
  rintro e w3 ⟨rfl, hb3⟩
  have HT3 := Lib.hid (HT2.out.below hb3 hs2)
  have c3 := bt c2 hb3 (Nat.le_refl _)
  clear HT2 c2 hs2 hb3 p0 p1 p2
  rcases HA with ⟨p, hIa, hVa, hEa⟩ | ⟨hVa, hEa⟩ <;> rcases HB with ⟨q, hIb, hVb, hEb⟩ | ⟨hVb, hEb⟩
  all_goals
    rw [hVa, hEa, hVb, hEb]
    clear hVa hEa hVb hEb
  case inr.inr =>
    go_wp2
    go_ret
    exact ⟨rfl, c3⟩
  case inr.inl =>
    go_wp2
    go_ret
    exact ⟨rfl, c3⟩
  case inl.inr =>
    go_wp2
    go_ret
    exact ⟨rfl, c3⟩
  have hL := less3 hIa hIb
  have HL := Lib.hid hL
  clear hL hIa hIb
  go_wp2_with fail
  go_loopw [10, 11, 12] (fun a b i wr => ∃ k : Nat, k ≤ 3 ∧ i = .int .i64 k ∧ a = .bool (lessK (A3 a0 a1 a2) (A3 b0 b1 b2) k) ∧ b = .bool (sameK (A3 a0 a1 a2) (A3 b0 b1 b2) k) ∧ Below w.heap.size w wr ∧ Hid (Two wr w.heap.size (A3 a0 a1 a2) (A3 b0 b1 b2))) (fun _ _ i _ => 3 - (intOf i).toNat)
  case atStart => exact ⟨0, by omega, rfl, rfl, rfl, c3, HT3⟩
  case round =>
    clear c3 HT3
    obtain ⟨k, hk, rfl, rfl, rfl, c4, HT4⟩ := hrel
    by_cases hlt : k < 3
    · have hk3 : (k : Int) < 3 := by omega
      have hk0 : (0 : Int) ≤ k := by omega
      have q0 := HT4.out.1 k hlt
      have q1 := HT4.out.2 k hlt
      have HX := Lib.hid (show lessK (A3 a0 a1 a2) (A3 b0 b1 b2) (k + 1) = (lessK (A3 a0 a1 a2) (A3 b0 b1 b2) k || (sameK (A3 a0 a1 a2) (A3 b0 b1 b2) k && decide (A3 a0 a1 a2 k < A3 b0 b1 b2 k))) from rfl)
      have HY := Lib.hid (show sameK (A3 a0 a1 a2) (A3 b0 b1 b2) (k + 1) = (sameK (A3 a0 a1 a2) (A3 b0 b1 b2) k && (A3 a0 a1 a2 k == A3 b0 b1 b2 k)) from rfl)
      generalize hU : lessK (A3 a0 a1 a2) (A3 b0 b1 b2) k = U at HX ⊢
      generalize hV : sameK (A3 a0 a1 a2) (A3 b0 b1 b2) k = V at HX HY ⊢
      clear hU hV
      generalize A3 a0 a1 a2 k = x at *
      generalize A3 b0 b1 b2 k = z at *
      cases U <;> cases V
      all_goals
        go_wp2_with fail
        go_quiet (fail)
        go_wp2_with fail
        go_quiet (fail)
        go_wp2
        go_roundw
        case rel => exact ⟨k + 1, by omega, by go_num, by rw [HX.out]; rfl, by rw [HY.out]; rfl, below_drewN c4 _, HT4⟩
        case measure => simp [intOf]; omega
    · obtain rfl : k = 3 := by omega
      have e1 := HL.out.1
      have e2 := HL.out.2
      generalize lessK (A3 a0 a1 a2) (A3 b0 b1 b2) 3 = U at *
      generalize sameK (A3 a0 a1 a2) (A3 b0 b1 b2) 3 = V at *
      go_wp2
      go_ret
      exact ⟨rfl, c4⟩

theorem okWide_array {P : Program} {w : World} {r : Reach} {base : Nat} {t e : TypeId} {n : Nat} {v : Value} (ht : P.underlying t = some (.array n e)) (h : Value.okWide P w r base t v) : ∃ cs, v = .agg cs ∧ cs.size = P.cellsOf t := by
  simp only [Value.okWide, ht] at h
  obtain ⟨cs, h1, h2, _⟩ := h
  exact ⟨cs, h1, h2⟩

theorem cells3 : Try.prog.cellsOf 48 = 3 := by kernel_rfl
theorem cells1 : Try.prog.cellsOf 3 = 1 := by kernel_rfl

/-- an argument of three numbers -/
theorem open3 {H : Type} {enc : TypeId × Value → H} {W : World} {base B : Nat} {sp : Nat → Bool} {hd : Bool} {v : Value} {d : DataW H} {p : List MemPlace}
    (hv : Value.okWide Try.prog W .any base 48 v) (h : DataW.Trod enc Try.prog W B sp hd 48 v d p) : ∃ a b c : Int, v = .agg #[.int .i64 a, .int .i64 b, .int .i64 c] := by
  obtain ⟨cs, rfl, hs⟩ := okWide_array Try.underlying48 hv
  rw [cells3] at hs
  obtain ⟨c0, c1, c2, rfl⟩ := Go.Joins.array3 hs
  obtain ⟨fuel, hf⟩ := h
  obtain ⟨xs, m, _, _, _, hl, hi⟩ := DataW.trod_array Try.underlying48 hf
  rw [cells1] at hi
  match xs, hl with
  | [x0, x1, x2], _ =>
    have h0 := hi 0 (by omega)
    have h1 := hi 1 (by omega)
    have h2 := hi 2 (by omega)
    simp [Value.cells] at h0 h1 h2
    obtain ⟨n0, e0, _⟩ := DataW.trod_int Try.underlying3 h0
    obtain ⟨n1, e1, _⟩ := DataW.trod_int Try.underlying3 h1
    obtain ⟨n2, e2, _⟩ := DataW.trod_int Try.underlying3 h2
    simp at e0 e1 e2
    subst e0 e1 e2
    exact ⟨n0, n1, n2, rfl⟩

theorem order_raw {H : Type} {enc : TypeId × Value → H} (W : World) {base B B' : Nat} {sp sp' : Nat → Bool} {hd hd' : Bool} {d d' : DataW H} {p p' : List MemPlace}
    (v : Value) (hv : Value.okWide Try.prog W .any base 48 v) (h : DataW.Trod enc Try.prog W B sp hd 48 v d p)
    (v' : Value) (hv' : Value.okWide Try.prog W .any base 48 v') (h' : DataW.Trod enc Try.prog W B' sp' hd' 48 v' d' p') :
    Calls Try.prog 8 #[v, v'] W fun e w' => e = .returned (.bool true) ∧ Below W.heap.size W w' := by
  obtain ⟨a0, a1, a2, rfl⟩ := open3 hv h
  obtain ⟨b0, b1, b2, rfl⟩ := open3 hv' h'
  exact order_walk a0 a1 a2 b0 b1 b2 W
end Go.Proofs.Ytaogoednndlaeaa.Dt
