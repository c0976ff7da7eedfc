/-
  Collateral's laws: what they compare and copy with.
-/
import Derived.Test.YtbfgnkakcnhojaaCoJ
import Derived.Test.YtbfgnkakcnhojaaCoK
import Derived.Laws.StructEq
import Derived.Test.YtbfgnkakcnhojaaLs3
namespace Go.Proofs.Ytbfgnkakcnhojaa.Co
open Go.RowKit Go.Proofs.Ytbfgnkakcnhojaa Go.Proofs.Ytbfgnkakcnhojaa.Ls Go.Proofs.Ytbfgnkakcnhojaa.Kb
open Go.Proofs.Ytbfgnkakcnhojaa.Nm hiding ret_bool ret_int

theorem getE {α : Type} {xs : List α} {i : Nat} (h : i < xs.length) : xs[i]? = some xs[i] := List.getElem?_eq_getElem h
set_option maxRecDepth 100000 in
set_option maxHeartbeats 2000000 in
theorem ints_any (a b : Option Addr) (c d : Nat) (xs ys : List Int) (n : Nat) (w : World) (hn : xs.length = n) (hx : n ≤ 1000) (hy : ys.length = n) (hA : AtL w 1 ic a xs) (hB : AtL w 1 ic b ys) :
    Calls Try.prog 22 #[.slice a n c, .slice b n d] w fun e w' => e = .returned (.bool (decide (xs = ys))) ∧ Below w.heap.size w w' := by
  subst hn
  have HA := Lib.hid hA
  have HB := Lib.hid hB
  have HL := Lib.hid hy
  clear hA hB hy
  go_enter Try.func22, Try.ntmps22
  go_wp2_with fail
  go_loopw [5] (fun i wr => ∃ k : Nat, k ≤ xs.length ∧ i = .int .i64 k ∧ Hid (xs.take k = ys.take k) ∧ Below w.heap.size w wr) (fun i _ => xs.length - (intOf i).toNat)
  case atStart => exact ⟨0, by omega, rfl, rfl, Below.refl _ _⟩
  case round =>
    obtain ⟨k, hk, rfl, HT, hbw⟩ := hrel
    by_cases hlt : k < xs.length
    · have hlt2 : k < ys.length := by rw [HL.out]; exact hlt
      obtain ⟨bx, ox, rfl, hcx⟩ := (HA.out.below hbw) k _ (getE hlt)
      obtain ⟨b_, oy, rfl, hcy⟩ := (HB.out.below hbw) k _ (getE hlt2)
      have HTX := Lib.hid (show xs.take (k + 1) = xs.take k ++ [xs[k]] from List.take_succ_eq_append_getElem hlt)
      have HTY := Lib.hid (show ys.take (k + 1) = ys.take k ++ [ys[k]] from List.take_succ_eq_append_getElem hlt2)
      have HNE := Lib.hid (show xs[k] ≠ ys[k] → xs ≠ ys from fun h e => h (by subst e; rfl))
      have q0x : wr.cell? ⟨bx, ox + k * 1, none⟩ = some (.int .i64 xs[k]) := hcx 0 _ rfl
      have q0y : wr.cell? ⟨b_, oy + k * 1, none⟩ = some (.int .i64 ys[k]) := hcy 0 _ rfl
      rw [Nat.mul_one] at q0x q0y
      clear hcx hcy
      generalize xs[k] = x at *
      generalize ys[k] = y at *
      clear hlt2
      have k0 : (0 : Int) ≤ k := by omega
      have k1 : (k : Int) < xs.length := by omega
      by_cases hxy : x = y
      · have HT2 : Hid (xs.take (k + 1) = ys.take (k + 1)) := by unfold Hid; rw [HTX.out, HTY.out, HT.out, hxy]
        have hq : (x != y) = false := by simp [hxy]
        clear hxy HTX HTY HNE
        go_wp2_with fail
        go_big_quiet (fail)
        go_wp2
        go_roundw
        case rel => exact ⟨k + 1, by omega, by go_num, HT2, below_drewN hbw _⟩
        case measure => simp [intOf]; omega
      · have HE : Hid (decide (xs = ys) = false) := decide_eq_false (HNE.out hxy)
        have hq : (x != y) = true := by simp [hxy]
        clear hxy HTX HTY HNE
        go_wp2_with fail
        go_big_quiet (fail)
        go_wp2
        go_ret
        exact ⟨ret_bool HE.out.symm, below_drewN hbw _⟩
    · have HE : Hid (decide (xs = ys) = true) := by
        have := HT.out
        rw [List.take_of_length_le (by omega), List.take_of_length_le (by rw [HL.out]; omega)] at this
        exact decide_eq_true this
      go_wp2
      go_ret
      exact ⟨ret_bool HE.out.symm, hbw⟩

theorem neq_hol (x y : ByteArray × Int) (b : Bool) (hb : decide (x ≠ y) = b) (w : World) : (binOp .neq 56 (.agg #[.string x.1, .int .i64 x.2]) (.agg #[.string y.1, .int .i64 y.2])).run Try.prog w = .ok (.bool b) w := by
  rw [run_neq_struct, run_equalIn_struct w 9999 _ _ _ (by kernel_rfl) (by kernel_rfl)]
  have hf : (Try.prog.fieldsOf 56).toList = [⟨"Asset", 9, 0, false, "", "", 0⟩, ⟨"Units", 3, 1, false, "", "", 16⟩] := by kernel_rfl
  rw [hf]
  obtain ⟨s, p⟩ := x
  obtain ⟨t, q⟩ := y
  subst hb
  by_cases h1 : s = t
  · subst h1
    by_cases h2 : p = q
    · subst h2
      simp [Op.eqFields, part, go_sem]
    · simp [Op.eqFields, part, go_sem, h2]
  · have h3 : ¬ s.toList = t.toList := fun h => by
      have := eq_no h1
      rw [h] at this
      simp at this
    simp [Op.eqFields, part, go_sem, h1, h3]
theorem guard_hol (x y : Operand) (xs ys : Array Value) (w : World) : (eqGuard .neq 56 x y (.agg xs) (.agg ys)).run Try.prog w = .ok () w := run_eqGuard_agg w .neq _ x y xs ys (by kernel_rfl)
set_option maxRecDepth 100000 in
set_option maxHeartbeats 2000000 in
theorem same_any (a b : Option Addr) (c d : Nat) (xs ys : List (ByteArray × Int)) (n m : Nat) (w : World) (hn : xs.length = n) (hm : ys.length = m) (hx : n ≤ 1000) (hA : AtL w 2 isc a xs) (hB : AtL w 2 isc b ys) :
    Calls Try.prog 27 #[.slice a n c, .slice b m d] w fun e w' => e = .returned (.bool (decide (xs = ys))) ∧ Below w.heap.size w w' := by
  subst hn
  subst hm
  have HA := Lib.hid hA
  have HB := Lib.hid hB
  clear hA hB
  by_cases hl : xs.length = ys.length
  · have HL := Lib.hid hl
    rw [← hl]
    clear hl
    go_enter Try.func27, Try.ntmps27
    go_wp2_with fail
    go_loopw [5] (fun i wr => ∃ k : Nat, k ≤ xs.length ∧ i = .int .i64 k ∧ Hid (xs.take k = ys.take k) ∧ Below w.heap.size w wr) (fun i _ => xs.length - (intOf i).toNat)
    case atStart => exact ⟨0, by omega, rfl, rfl, Below.refl _ _⟩
    case round =>
      obtain ⟨k, hk, rfl, HT, hbw⟩ := hrel
      by_cases hlt : k < xs.length
      · have hlt2 : k < ys.length := by rw [← HL.out]; exact hlt
        obtain ⟨bx, ox, rfl, hcx⟩ := (HA.out.below hbw) k _ (getE hlt)
        obtain ⟨b_, oy, rfl, hcy⟩ := (HB.out.below hbw) k _ (getE hlt2)
        have HTX := Lib.hid (show xs.take (k + 1) = xs.take k ++ [xs[k]] from List.take_succ_eq_append_getElem hlt)
        have HTY := Lib.hid (show ys.take (k + 1) = ys.take k ++ [ys[k]] from List.take_succ_eq_append_getElem hlt2)
        have HNE := Lib.hid (show xs[k] ≠ ys[k] → xs ≠ ys from fun h e => h (by subst e; rfl))
        have q0x : wr.cell? ⟨bx, ox + k * 2, none⟩ = some (.string xs[k].1) := hcx 0 _ rfl
        have q1x : wr.cell? ⟨bx, ox + k * 2 + 1, none⟩ = some (.int .i64 xs[k].2) := hcx 1 _ rfl
        have q0y : wr.cell? ⟨b_, oy + k * 2, none⟩ = some (.string ys[k].1) := hcy 0 _ rfl
        have q1y : wr.cell? ⟨b_, oy + k * 2 + 1, none⟩ = some (.int .i64 ys[k].2) := hcy 1 _ rfl
        clear hcx hcy
        generalize xs[k] = x at *
        generalize ys[k] = y at *
        clear hlt2
        have k0 : (0 : Int) ≤ k := by omega
        have k1 : (k : Int) < xs.length := by omega
        have hgd := guard_hol
        by_cases hxy : x = y
        · have hr := fun w => neq_hol x y false (by simp [hxy]) w
          have HT2 : Hid (xs.take (k + 1) = ys.take (k + 1)) := by unfold Hid; rw [HTX.out, HTY.out, HT.out, hxy]
          clear hxy HTX HTY HNE
          go_wp2_with fail
          go_quiet (fail)
          go_wp2
          go_roundw
          case rel => exact ⟨k + 1, by omega, by go_num, HT2, below_drewN hbw _⟩
          case measure => simp [intOf]; omega
        · have hr := fun w => neq_hol x y true (by simp [hxy]) w
          have HE : Hid (decide (xs = ys) = false) := decide_eq_false (HNE.out hxy)
          clear hxy HTX HTY HNE
          go_wp2_with fail
          go_quiet (fail)
          go_wp2
          go_ret
          exact ⟨ret_bool HE.out.symm, below_drewN hbw _⟩
      · have HE : Hid (decide (xs = ys) = true) := by
          have := HT.out
          rw [List.take_of_length_le (by omega), List.take_of_length_le (by rw [← HL.out]; omega)] at this
          exact decide_eq_true this
        go_wp2
        go_ret
        exact ⟨ret_bool HE.out.symm, hbw⟩
  · have HE := Lib.hid (show decide (xs = ys) = false from decide_eq_false (fun e => hl (by rw [e])))
    have hl2 : ((xs.length : Int) != ys.length) = true := by rw [bne_iff_ne]; omega
    go_enter Try.func27, Try.ntmps27
    go_wp2
    go_ret
    exact ⟨ret_bool HE.out.symm, Below.refl _ _⟩

/-- what the laws leave aside -/
def greatB (nA nI nL : Nat) : Bool := decide (40 < nA) || decide (40 < nI) || decide (40 < nL)
set_option maxRecDepth 100000 in
set_option maxHeartbeats 2000000 in
theorem great_any (aA aI aL : Option Addr) (nA nI nL cA cI cL : Nat) (w : World) :
    Calls Try.prog 12 #[.agg #[.slice aA nA cA, .slice aI nI cI], .slice aL nL cL] w fun e w' => e = .returned (.bool (greatB nA nI nL)) ∧ Below w.heap.size w w' := by
  have hbo : Below w.heap.size w (w.alloc (.cells #[.slice aA nA cA, .slice aI nI cI] 25)) := (Below.refl _ _).alloc (Nat.le_refl _) _
  have HB := Lib.hid hbo
  have hx := blk_new w (.cells #[.slice aA nA cA, .slice aI nI cI] 25)
  have x0 := cell_of hx 0 _ rfl
  have x1 := cell_of hx 1 _ rfl
  clear hbo
  by_cases h1 : 40 < nA
  · have HE := Lib.hid (show greatB nA nI nL = true by unfold greatB; simp [h1])
    have h1' : (40 : Int) < nA := by omega
    go_enter Try.func12, Try.ntmps12
    go_wp2
    go_ret
    exact ⟨ret_bool HE.out.symm, HB.out⟩
  · have h1' : ¬ (40 : Int) < nA := by omega
    by_cases h2 : 40 < nI
    · have HE := Lib.hid (show greatB nA nI nL = true by unfold greatB; simp [h2])
      have h2' : (40 : Int) < nI := by omega
      go_enter Try.func12, Try.ntmps12
      go_wp2
      go_ret
      exact ⟨ret_bool HE.out.symm, HB.out⟩
    · have h2' : ¬ (40 : Int) < nI := by omega
      by_cases h3 : 40 < nL
      · have HE := Lib.hid (show greatB nA nI nL = true by unfold greatB; simp [h3])
        have h3' : (40 : Int) < nL := by omega
        go_enter Try.func12, Try.ntmps12
        go_wp2
        go_ret
        exact ⟨ret_bool (by rw [HE.out]), HB.out⟩
      · have HE := Lib.hid (show greatB nA nI nL = false by unfold greatB; simp [h1, h2, h3])
        have h3' : ¬ (40 : Int) < nL := by omega
        go_enter Try.func12, Try.ntmps12
        go_wp2
        go_ret
        exact ⟨ret_bool (by rw [HE.out]), HB.out⟩

set_option maxRecDepth 100000 in
set_option maxHeartbeats 2000000 in
theorem twin_any (a : Option Addr) (c : Nat) (L : List (ByteArray × Int)) (w : World) (hn : L.length ≤ 1000) (hA : AtL w 2 isc a L) :
    Calls Try.prog 13 #[.slice a L.length c] w fun e w' => ∃ a' c', e = .returned (.slice a' L.length c') ∧ OwnL w' w.heap.size 56 2 isc (.slice a' L.length c') L ∧ Below w.heap.size w w' := by
  have hbo : Below w.heap.size w (w.alloc (.cells #[] 56)) := (Below.refl _ _).alloc (Nat.le_refl _) _
  have HA := Lib.hid (hA.below hbo)
  have HB := Lib.hid hbo
  clear hA hbo
  go_enter Try.func13, Try.ntmps13
  go_wp2_with (at_builtin; refine wpList_append_LL (w.alloc (.cells #[] 56)) (P := Try.prog) (α := ByteArray × Int) rfl _ _ _ rfl 56 (Value.agg #[.string ⟨#[]⟩, .int .i64 0]) 2 24 Try.underlying26 info_hol rfl (by decide) w.heap.size isc isc_len isc_one (.slice (some ⟨w.heap.size, 0, none⟩) 0 0) [] L a c rfl rfl (OwnL.empty (blk_new w _) (Nat.le_refl _)) HA.out (by simp only [List.length_nil, maxLen]; omega) (by simp only [List.length_nil]; omega) (by simp) ?_; intro a3 c3 w3 ho3 hg3)
  rw [List.nil_append] at ho3
  simp only [List.length_nil, Nat.zero_add] at ho3 ⊢
  have hb3 : Below w.heap.size w w3 := HB.out.grown hg3 (by simp) (fun k hk => by simp [Value.ownBlock] at hk; omega)
  go_wp2
  go_ret
  exact ⟨a3, c3, rfl, ho3, hb3⟩

/-- the example -/
def exA : List As := [⟨⟨#[97]⟩, ⟨#[105]⟩, 100, 100, 1000, true⟩, ⟨⟨#[98]⟩, ⟨#[105]⟩, 10, 0, 1000, true⟩]
def exI : List (ByteArray × Int) := [(⟨#[105]⟩, 150)]
def exL (a b : Int) : List (ByteArray × Int) := [(⟨#[97]⟩, a), (⟨#[98]⟩, b)]
def exAc : Array Value := #[.string ⟨#[97]⟩, .string ⟨#[105]⟩, .int .i64 100, .int .i64 100, .int .i64 1000, .bool true, .string ⟨#[98]⟩, .string ⟨#[105]⟩, .int .i64 10, .int .i64 0, .int .i64 1000, .bool true]
def exIc : Array Value := #[.string ⟨#[105]⟩, .int .i64 150]
def exLc (a b : Int) : Array Value := #[.string ⟨#[97]⟩, .int .i64 a, .string ⟨#[98]⟩, .int .i64 b]
theorem atL_blk {α : Type} {w : World} {b k : Nat} {T : TypeId} {cs : Array Value} {f : α → List Value} {xs : List α} (hk : ∀ x, (f x).length = k) (h : w.heap[b]? = some (.cells cs T (0, 0))) (hc : cs.toList = xs.flatMap f) : AtL w k f (some ⟨b, 0, none⟩) xs := by
  intro i x hx
  refine ⟨b, 0, rfl, fun j u hu => ?_⟩
  refine cell_of h _ u ?_
  have hj : j < k := by
    rw [← hk x]
    exact (List.getElem?_eq_some_iff.1 hu).1
  have := flat_get f k hk xs i j hj
  rw [hx] at this
  simp only [Option.bind_some] at this
  rw [hu, ← hc] at this
  rw [Nat.zero_add, ← Array.getElem?_toList]
  exact this
set_option maxRecDepth 100000 in
set_option maxHeartbeats 2000000 in
theorem held_is (a b : Int) (w : World) :
    Calls Try.prog 34 #[.int .i64 a, .int .i64 b] w fun e w' => ∃ x, e = .returned (.slice (some ⟨x, 0, none⟩) 2 2) ∧ w.heap.size ≤ x ∧ w'.heap[x]? = some (.cells (exLc a b) 56 (0, 0)) ∧ Below w.heap.size w w' := by
  have hbo : Below w.heap.size w (w.alloc (.cells (exLc a b) 56)) := (Below.refl _ _).alloc (Nat.le_refl _) _
  have hx := blk_new w (.cells (exLc a b) 56)
  have HB := Lib.hid hbo
  have HX := Lib.hid hx
  clear hbo hx
  go_enter Try.func34, Try.ntmps34
  go_wp2
  go_ret
  exact ⟨w.heap.size, rfl, Nat.le_refl _, HX.out, HB.out⟩
set_option maxRecDepth 100000 in
set_option maxHeartbeats 2000000 in
theorem table_is (w : World) :
    Calls Try.prog 33 #[] w fun e w' => ∃ x y, e = .returned (.agg #[.slice (some ⟨x, 0, none⟩) 2 2, .slice (some ⟨y, 0, none⟩) 1 1]) ∧ w.heap.size ≤ x ∧ w.heap.size ≤ y ∧ w'.heap[x]? = some (.cells exAc 48 (0, 0)) ∧ w'.heap[y]? = some (.cells exIc 50 (0, 0)) ∧ Below w.heap.size w w' := by
  go_enter Try.func33, Try.ntmps33
  go_wp2_with fail
  have h01 := blk_two w (.cells #[.slice (some ⟨w.heap.size + 1, 0, none⟩) 2 2, .slice (some ⟨w.heap.size + 1 + 1, 0, none⟩) 1 1] 25) (.cells exAc 48)
  have hA := blk_past _ (.cells exIc 50) h01.1
  have hB := blk_past _ (.cells exIc 50) h01.2
  have hC := blk_new ((w.alloc (.cells #[.slice (some ⟨w.heap.size + 1, 0, none⟩) 2 2, .slice (some ⟨w.heap.size + 1 + 1, 0, none⟩) 1 1] 25)).alloc (.cells exAc 48)) (.cells exIc 50)
  have hb3 : Below w.heap.size w (((w.alloc (.cells #[.slice (some ⟨w.heap.size + 1, 0, none⟩) 2 2, .slice (some ⟨w.heap.size + 1 + 1, 0, none⟩) 1 1] 25)).alloc (.cells exAc 48)).alloc (.cells exIc 50)) := (((Below.refl _ _).alloc (Nat.le_refl _) _).alloc (by simp) _).alloc (by simp; omega) _
  rw [show ((w.alloc (.cells #[.slice (some ⟨w.heap.size + 1, 0, none⟩) 2 2, .slice (some ⟨w.heap.size + 1 + 1, 0, none⟩) 1 1] 25)).alloc (.cells exAc 48)).heap.size = w.heap.size + 1 + 1 by simp] at hC
  have g0 := cell_of hA 0 _ rfl
  have g1 := cell_of hA 1 _ rfl
  unfold exAc exIc at *
  refine bodyPost_ret (v := .agg #[.slice (some ⟨w.heap.size + 1, 0, none⟩) 2 2, .slice (some ⟨w.heap.size + 1 + 1, 0, none⟩) 1 1]) (by simp [results, Try.results33, go_sem, g0, g1]) rfl ⟨w.heap.size + 1, w.heap.size + 1 + 1, rfl, by omega, by omega, hB, hC, hb3⟩
end Go.Proofs.Ytbfgnkakcnhojaa.Co
