/-
  Compress: the library's slices.Clone at int and at api.CompressTrade; slices.Index and slices.Contains at string.
-/
import Derived.Test.YtpphiohppgphnaaCs9
namespace Go.Proofs.Ytpphiohppgphnaa.Cs
open Go.RowKit Go.Proofs.Ytpphiohppgphnaa Go.Proofs.Ytpphiohppgphnaa.Ls Go.Proofs.Ytpphiohppgphnaa.Kb Go.Proofs.Ytpphiohppgphnaa.Cz
open Go.Proofs.Ytpphiohppgphnaa.Nm hiding ret_bool ret_int hb'

set_option maxRecDepth 100000 in
set_option maxHeartbeats 1000000 in
theorem clone_int (a : Option Addr) (c : Nat) (L : List Int) (n : Nat) (w : World) (hl : L.length = n) (hn : n ≤ 1000000) (hA : AtL w 1 ic a L) :
    Calls Try.prog 46 #[.slice a n c] w fun e w' => ∃ a' c', e = .returned (.slice a' n c') ∧ OwnL w' w.heap.size 3 1 ic (.slice a' n c') L ∧ Below w.heap.size w w' := by
  have q22 : ∀ (w : World) (a : Option Addr) (n c n' c' : Nat), (binOp .eql 38 (.slice a n c) (.slice none n' c')).run Try.prog w = .ok (.bool a.isNone) w := fun w a n c n' c' => Lib.run_eql_slice_nil w _ _ a n c n' c' Try.underlying38
  subst hl
  cases a with
  | none =>
    have h0 : L = [] := by
      cases L with
      | nil => rfl
      | cons x L =>
        obtain ⟨b, off, h, _⟩ := hA 0 x rfl
        cases h
    subst h0
    clear hA hn
    go_enter Try.func46, Try.ntmps46
    go_wp2
    go_ret
    exact ⟨none, 0, rfl, OwnL.nil _ _ _ _ _, Below.refl _ _⟩
  | some A =>
    have HA := Lib.hid (hA.below (((Below.refl _ w).alloc (Nat.le_refl _) (.cells #[] 3))))
    clear hA
    go_enter Try.func46, Try.ntmps46
    go_wp2_with (at_builtin; refine wpList_append_LL (w.alloc (.cells #[] 3)) (P := Try.prog) (α := Int) rfl _ _ _ rfl 3 (.int .i64 0) 1 8 Try.underlying38 info_int rfl (by decide) w.heap.size ic ic_len ic_one (.slice (some ⟨w.heap.size, 0, none⟩) 0 0) [] L (some A) c rfl rfl (OwnL.empty (blk_new w _) (Nat.le_refl _)) HA.out (by simp only [List.length_nil, maxLen]; omega) (by simp only [List.length_nil]; omega) (by simp) ?_; intro a3 c3 w3 ho3 hg3)
    simp only [List.length_nil, Nat.zero_add, List.nil_append] at ho3 ⊢
    have hb3 : Below w.heap.size w w3 := ((Below.refl _ w).alloc (Nat.le_refl _) _).grown hg3 (by simp) (by intro k hk; simp [Value.ownBlock] at hk; omega)
    have HO := Lib.hid ho3
    clear ho3 hg3
    go_wp2
    go_ret
    exact ⟨a3, c3, rfl, HO.out, hb3⟩
set_option maxRecDepth 100000 in
set_option maxHeartbeats 1000000 in
theorem clone_tr (a : Option Addr) (c : Nat) (L : List Tr) (w : World) (hn : L.length ≤ 1000000) (hA : AtL w 4 trc a L) :
    Calls Try.prog 27 #[.slice a L.length c] w fun e w' => ∃ a' c', e = .returned (.slice a' L.length c') ∧ OwnL w' w.heap.size 31 4 trc (.slice a' L.length c') L ∧ Below w.heap.size w w' := by
  have q22 : ∀ (w : World) (a : Option Addr) (n c n' c' : Nat), (binOp .eql 22 (.slice a n c) (.slice none n' c')).run Try.prog w = .ok (.bool a.isNone) w := fun w a n c n' c' => Lib.run_eql_slice_nil w _ _ a n c n' c' Try.underlying22
  cases a with
  | none =>
    have h0 : L = [] := by
      cases L with
      | nil => rfl
      | cons x L =>
        obtain ⟨b, off, h, _⟩ := hA 0 x rfl
        cases h
    subst h0
    clear hA hn
    go_enter Try.func27, Try.ntmps27
    go_wp2
    go_ret
    exact ⟨none, 0, rfl, OwnL.nil _ _ _ _ _, Below.refl _ _⟩
  | some A =>
    have HA := Lib.hid (hA.below (((Below.refl _ w).alloc (Nat.le_refl _) (.cells #[] 31))))
    clear hA
    go_enter Try.func27, Try.ntmps27
    go_wp2_with (at_builtin; refine wpList_append_LL (w.alloc (.cells #[] 31)) (P := Try.prog) (α := Tr) rfl _ _ _ rfl 31 (.agg #[.string ⟨#[]⟩, .string ⟨#[]⟩, .string ⟨#[]⟩, .int .i64 0]) 4 56 Try.underlying22 info_tr rfl (by decide) w.heap.size trc trc_len trc_one (.slice (some ⟨w.heap.size, 0, none⟩) 0 0) [] L (some A) c rfl rfl (OwnL.empty (blk_new w _) (Nat.le_refl _)) HA.out (by simp only [List.length_nil, maxLen]; omega) (by simp only [List.length_nil]; omega) (by simp) ?_; intro a3 c3 w3 ho3 hg3)
    simp only [List.length_nil, Nat.zero_add, List.nil_append] at ho3 ⊢
    have hb3 : Below w.heap.size w w3 := ((Below.refl _ w).alloc (Nat.le_refl _) _).grown hg3 (by simp) (by intro k hk; simp [Value.ownBlock] at hk; omega)
    have HO := Lib.hid ho3
    clear ho3 hg3
    go_wp2
    go_ret
    exact ⟨a3, c3, rfl, HO.out, hb3⟩
/-- strings in memory -/
def sc (x : ByteArray) : List Value := [.string x]
theorem sc_len (x : ByteArray) : (sc x).length = 1 := rfl
theorem sc_one (x : ByteArray) : ∀ u ∈ sc x, u.oneCell' = true := by simp [sc, Value.oneCell']
def gs (l : List ByteArray) (i : Nat) : ByteArray := l.getD i ⟨#[]⟩
theorem at_sc {w : World} {a : Option Addr} {xs : List ByteArray} (h : AtL w 1 sc a xs) (i : Nat) (hi : i < xs.length) : ∃ b off, a = some ⟨b, off, none⟩ ∧ w.cell? ⟨b, off + i, none⟩ = some (.string (gs xs i)) := by
  obtain ⟨b, off, ha, hc⟩ := h i xs[i] (by rw [List.getElem?_eq_getElem hi])
  refine ⟨b, off, ha, ?_⟩
  have := hc 0 _ rfl
  rw [Nat.mul_one, Nat.add_zero] at this
  rw [this]
  unfold gs
  rw [List.getD_eq_getElem?_getD, List.getElem?_eq_getElem hi]
  rfl
theorem gs_mem (l : List ByteArray) (i : Nat) (h : i < l.length) : gs l i ∈ l := by unfold gs; rw [List.getD_eq_getElem?_getD, List.getElem?_eq_getElem h]; exact List.getElem_mem _
theorem mem_gs {l : List ByteArray} {x : ByteArray} (h : x ∈ l) : ∃ i, i < l.length ∧ gs l i = x := by
  obtain ⟨i, hi, e⟩ := List.mem_iff_getElem.1 h
  exact ⟨i, hi, by unfold gs; rw [List.getD_eq_getElem?_getD, List.getElem?_eq_getElem hi]; exact e⟩
set_option maxRecDepth 100000 in
set_option maxHeartbeats 2000000 in
theorem index_str (a : Option Addr) (c : Nat) (L : List ByteArray) (x : ByteArray) (w : World) (hn : L.length ≤ 1000000) (hA : AtL w 1 sc a L) :
    Calls Try.prog 50 #[.slice a L.length c, .string x] w fun e w' => ∃ k : Int, e = .returned (.int .i64 k) ∧ (0 ≤ k ↔ inS L x = true) ∧ Below w.heap.size w w' := by
  have HA := Lib.hid hA
  clear hA
  go_enter Try.func50, Try.ntmps50
  go_wp2_with fail
  go_loop [5, 8] (fun _ i => ∃ k : Nat, k ≤ L.length ∧ i = .int .i64 k ∧ Hid (∀ j, j < k → gs L j ≠ x)) (fun _ i => L.length - (intOf i).toNat)
  case atStart => exact ⟨0, by omega, rfl, fun j hj => by omega⟩
  case round =>
    obtain ⟨k, hk, rfl, HNO⟩ := hrel
    rcases Nat.lt_or_ge k L.length with hlt | hge
    · have hki : (k : Int) < L.length := by omega
      have hk0 : (0 : Int) ≤ (k : Int) := by omega
      obtain ⟨lb, lo, rfl, q0⟩ := at_sc HA.out k hlt
      by_cases he : gs L k = x
      · have e1 := eq_yes he.symm
        have HM := Lib.hid (show (0 ≤ (k : Int)) ↔ (inS L x = true) from ⟨fun _ => (inS_iff L x).2 (he ▸ gs_mem L k hlt), fun _ => hk0⟩)
        clear he HNO
        generalize gs L k = y at *
        go_wp2
        go_ret
        exact ⟨_, rfl, HM.out, Below.refl _ _⟩
      · have e1 := eq_no (fun e => he e.symm)
        have HN2 := Lib.hid (show ∀ j, j < k + 1 → gs L j ≠ x from fun j hj => by
          rcases Nat.eq_or_lt_of_le (show j ≤ k by omega) with g | g
          · subst g; exact he
          · exact HNO.out j g)
        clear he HNO
        generalize gs L k = y at q0 e1
        go_wp2
        go_round
        case rel => exact ⟨k + 1, by omega, by go_num, HN2⟩
        case measure => simp [intOf]; omega
    · obtain rfl : k = L.length := by omega
      have HM := Lib.hid (show (0 ≤ (-1 : Int)) ↔ (inS L x = true) from ⟨fun h => absurd h (by decide), fun h => by
        obtain ⟨i, hi, e⟩ := mem_gs ((inS_iff L x).1 h)
        exact absurd e (HNO.out i hi)⟩)
      clear HNO
      go_wp2
      go_ret
      exact ⟨_, rfl, HM.out, Below.refl _ _⟩
set_option maxRecDepth 100000 in
set_option maxHeartbeats 2000000 in
theorem contains_str (a : Option Addr) (c : Nat) (L : List ByteArray) (n : Nat) (x : ByteArray) (w : World) (hl : L.length = n) (hn : n ≤ 1000000) (hA : AtL w 1 sc a L) :
    Calls Try.prog 47 #[.slice a n c, .string x] w fun e w' => e = .returned (.bool (inS L x)) ∧ Below w.heap.size w w' := by
  subst hl
  have HC := Lib.hid (index_str a c L x w hn hA)
  clear hA
  generalize inS L x = b at *
  go_enter Try.func47, Try.ntmps47
  go_wp2_with fail
  refine HC.out.mono ?_
  rintro e w1 ⟨k, rfl, hk, hb1⟩
  have e1 : decide (0 ≤ k) = b := by
    cases b
    · exact decide_eq_false (fun h => by have := hk.1 h; cases this)
    · exact decide_eq_true (hk.2 rfl)
  clear hk HC
  subst e1
  go_wp2
  go_ret
  exact ⟨rfl, hb1⟩
end Go.Proofs.Ytpphiohppgphnaa.Cs
