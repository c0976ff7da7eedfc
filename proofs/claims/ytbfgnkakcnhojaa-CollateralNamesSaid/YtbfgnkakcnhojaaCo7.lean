/-
  Collateral: a map from names to numbers, as a function; the least of some numbers; tables and holdings that fit.
-/
import Derived.Test.YtbfgnkakcnhojaaCoP
import Derived.Test.YtbfgnkakcnhojaaCo5
import Derived.Maps.OwnIn
import Derived.StringKeys
import Derived.RangeFuncNested
import Derived.RangeFuncBound
import Derived.RangeFuncCalls
import Derived.RangeFuncLeaves
import Derived.RangeFuncKeeps
import Derived.OwnWalkIn
import Derived.TacticsInMore
import Derived.LoopNIn
import Derived.LoopIn
namespace Go.Proofs.Ytbfgnkakcnhojaa.Co
open Go.RowKit Go.Proofs.Ytbfgnkakcnhojaa Go.Proofs.Ytbfgnkakcnhojaa.Ls Go.Proofs.Ytbfgnkakcnhojaa.Kb
open Go.Proofs.Ytbfgnkakcnhojaa.Nm hiding ret_bool ret_int

/-- block b is a map that the call made; it reads as m -/
def MapIs (w : World) (b n : Nat) (m : ByteArray → Int) : Prop := ∃ D : DataW Unit, w.ownsMap Try.prog 9 (plainElem Try.prog 3) b n D ∧ ∀ s : ByteArray, s.size ≤ maxLen → D.atKey (.string s.data.toList) (.lit (.int .i64 0)) = .lit (.int .i64 (m s))
theorem mapIs_made (w : World) : MapIs (w.alloc (.map #[] 0)) w.heap.size 0 (fun _ => 0) := ⟨.map [], World.ownsMap_made w _ _ _, fun _ _ => rfl⟩
theorem MapIs.kept {w w' : World} {b n : Nat} {m : ByteArray → Int} {row : Option Nat} (h : MapIs w b n m) (hg : w.grownBy w' row) (hne : some b ≠ row) : MapIs w' b n m := by
  obtain ⟨D, h1, h2⟩ := h
  exact ⟨D, h1.kept hg hne, h2⟩
theorem MapIs.lt {w : World} {b n : Nat} {m : ByteArray → Int} (h : MapIs w b n m) : b < w.heap.size := by
  obtain ⟨D, h1, _⟩ := h
  exact h1.lt
theorem MapIs.walk {w : World} {b n : Nat} {m : ByteArray → Int} (h : MapIs w b n m) : ∃ o : Obj, w.heap[b]? = some o ∧ o.isWalk = true := by
  obtain ⟨D, h1, _⟩ := h
  obtain ⟨es, clock, hb, _⟩ := h1
  exact ⟨_, hb, rfl⟩
theorem MapIs.blk {w w' : World} {b n : Nat} {m : ByteArray → Int} (h : MapIs w b n m) (hb : w'.heap[b]? = w.heap[b]?) : MapIs w' b n m := by
  obtain ⟨D, ⟨es, clock, h1, h2⟩, h3⟩ := h
  exact ⟨D, ⟨es, clock, by rw [hb, h1], h2⟩, h3⟩
theorem key_ext {s t : ByteArray} (h : s.data.toList = t.data.toList) : s = t := by
  cases s; cases t
  congr 1
  exact Array.toList_inj.1 h
def upd (m : ByteArray → Int) (s : ByteArray) (v : Int) : ByteArray → Int := fun t => if s = t then v else m t
theorem upd_at {D : DataW Unit} {m : ByteArray → Int} (hD : Maps.IsMap D) (h : ∀ s : ByteArray, s.size ≤ maxLen → D.atKey (.string s.data.toList) (.lit (.int .i64 0)) = .lit (.int .i64 (m s))) (s : ByteArray) (c : Int) (s' : ByteArray) (hs' : s'.size ≤ maxLen) :
    (D.put (.string s.data.toList) (.lit (.int .i64 c))).atKey (.string s'.data.toList) (.lit (.int .i64 0)) = .lit (.int .i64 (upd m s c s')) := by
  unfold upd
  by_cases e : s = s'
  · subst e
    rw [if_pos rfl]
    exact Maps.atKey_put_same hD (by simp [WideAt.IsKeyLit]) _ _
  · rw [if_neg e, Maps.atKey_put_other (fun g => e (key_ext (by injection g with g; exact g.symm)))]
    exact h s' hs'
section
variable {F : Fence} {nF : Nat} (w : World) {ops : Array Oper} {rest : List Oper} {o : Oper} {a : Act} {Q : Exit → Act → World → Prop}
/-- 'm[k] = v' inside a fence -/
theorem wpListIn_put_M (hg : o.guard = none) (m x v : Operand) (t : TypeId) (hop : o.op = Op.mapUpdate t m x v) (ht : Try.prog.underlying t = some (.map 9 3)) (b n : Nat) (M : ByteArray → Int) (hm : a.eval m = .map (some b)) (h : MapIs w b n M) (hn : n < maxLen)
    (s : ByteArray) (hs : s.size ≤ maxLen) (c : Int) (hc : (Lit.int .i64 c).wf = true) (hx : a.eval x = .string s) (hv : a.eval v = .int .i64 c)
    (hK : ∀ w', MapIs w' b (n + 1) (upd M s c) → w.grownBy w' (some b) → wpListIn F nF Try.prog ops Q rest (a.put o.dst undef) w') : wpListIn F nF Try.prog ops Q (o :: rest) a w := by
  obtain ⟨D, hown, hat⟩ := h
  exact wpListIn_mapUpdate_own w hg m x v t hop 9 3 (Maps.string_keyed Try.underlying9) ht (plainElem Try.prog 3) b n D hm hown hn (.string s) (.int .i64 c) (.string s.data.toList) hx hv (WideMaps.keyOf_string_mk Try.underlying9 hs) (.lit (.int .i64 c)) [] (plainElem_int Try.underlying3 hc)
    (fun w' h1 h2 => hK w' ⟨_, h1, upd_at hown.isMap hat s c⟩ h2)
/-- 'm[k]' inside a fence -/
theorem wpListIn_look_M (hg : o.guard = none) (m x : Operand) (t : TypeId) (hop : o.op = Op.lookup t m x false) (ht : Try.prog.underlying t = some (.map 9 3)) (b n : Nat) (M : ByteArray → Int) (hm : a.eval m = .map (some b)) (h : MapIs w b n M)
    (s : ByteArray) (hs : s.size ≤ maxLen) (hx : a.eval x = .string s)
    (hK : wpListIn F nF Try.prog ops Q rest (a.put o.dst (.int .i64 (M s))) w) : wpListIn F nF Try.prog ops Q (o :: rest) a w := by
  obtain ⟨D, hown, hat⟩ := h
  refine wpListIn_lookup_own_int w hg m x t hop 9 3 .i64 (Maps.string_keyed Try.underlying9) ht Try.underlying3 (Try.zeroValue3 w) b n D hm hown (.string s) (.string s.data.toList) hx (WideMaps.keyOf_string_mk Try.underlying9 hs) (fun c hc _ => ?_)
  rw [hat s hs] at hc
  injection hc with hc
  injection hc with _ hc
  rw [← hc]
  exact hK
end

theorem min_is (a b : Int) : (if b < a then b else a) = min a b := by omega

set_option maxRecDepth 100000 in
set_option maxHeartbeats 1000000 in
theorem min3_any (b cap : Nat) (x y z : Int) (w : World) (h0 : w.cell? ⟨b, 0, none⟩ = some (.int .i64 x)) (h1 : w.cell? ⟨b, 1, none⟩ = some (.int .i64 y)) (h2 : w.cell? ⟨b, 2, none⟩ = some (.int .i64 z)) :
    Calls Try.prog 67 #[.slice (some ⟨b, 0, none⟩) 3 cap] w fun e w' => e = .returned (.int .i64 (min (min x y) z)) ∧ w' = w := by
  go_enter Try.func67, Try.ntmps67
  go_wp2
  go_loop [3, 4] (fun m i => (i = .int .i64 1 ∧ m = .int .i64 x) ∨ (i = .int .i64 2 ∧ m = .int .i64 (min x y)) ∨ (i = .int .i64 3 ∧ m = .int .i64 (min (min x y) z))) (fun _ i => 3 - (intOf i).toNat)
  case atStart => exact .inl ⟨rfl, rfl⟩
  case round =>
    rcases hrel with ⟨rfl, rfl⟩ | ⟨rfl, rfl⟩ | ⟨rfl, rfl⟩
    · go_wp2
      go_round
      case rel => exact .inr (.inl ⟨rfl, by rw [min_is]⟩)
      case measure => simp [intOf]
    · go_wp2
      go_round
      case rel => exact .inr (.inr ⟨rfl, by rw [min_is]⟩)
      case measure => simp [intOf]
    · go_wp2
      go_ret
      exact ⟨rfl, rfl⟩

theorem least_any (b cap : Nat) (x y z : Int) (w : World) (h0 : w.cell? ⟨b, 0, none⟩ = some (.int .i64 x)) (h1 : w.cell? ⟨b, 1, none⟩ = some (.int .i64 y)) (h2 : w.cell? ⟨b, 2, none⟩ = some (.int .i64 z)) :
    Calls Try.prog 55 #[.slice (some ⟨b, 0, none⟩) 3 cap] w fun e w' => e = .returned (.int .i64 (min (min x y) z)) ∧ w' = w := by
  go_enter Try.func55, Try.ntmps55
  go_wp2_with fail
  refine (min3_any b cap x y z w h0 h1 h2).mono ?_
  rintro e w' ⟨rfl, rfl⟩
  go_wp2
  go_ret
  exact ⟨ret_int (by omega), rfl⟩

def rngB (x : As) : Bool := decide (0 ≤ x.pr) && decide (x.pr ≤ 33554432) && (decide (0 ≤ x.hc) && decide (x.hc ≤ 1000)) && decide (0 ≤ x.mo ∧ x.mo ≤ 1125899906842624)
def issOK (I : List (ByteArray × Int)) (i : Nat) : Bool := nm (gi I i).1 && decide (0 ≤ (gi I i).2 ∧ (gi I i).2 ≤ 1125899906842624)
def issE (I : List (ByteArray × Int)) : Nat → Bool := elB (issOK I) fun i => (gi I i).1
def assOK (A : List As) (I : List (ByteArray × Int)) (i : Nat) : Bool := nm (ga A i).nm && (fnI I (ga A i).iss).isSome && rngB (ga A i)
def assE (A : List As) (I : List (ByteArray × Int)) : Nat → Bool := elB (assOK A I) fun i => (ga A i).nm
/-- is a table right? -/
def tabB (A : List As) (I : List (ByteArray × Int)) : Bool := decide (A.length ≤ 32) && decide (I.length ≤ 32) && allB I.length (issE I) && allB A.length (assE A I)
/-- do holdings fit a table? -/
def fitB (A : List As) (I L : List (ByteArray × Int)) : Bool := tabB A I && holB L && allB L.length fun i => (fnA A (gi L i).1).isSome
/-- names of a size that there is -/
def SzA (A : List As) : Prop := ∀ i, (ga A i).nm.size ≤ maxLen ∧ (ga A i).iss.size ≤ maxLen
structure Fits (A : List As) (I L : List (ByteArray × Int)) : Prop where
  lA : A.length ≤ 32
  lI : I.length ≤ 32
  lL : L.length ≤ 32
  sA : Sorted A.length fun i => (ga A i).nm
  sI : Sorted I.length fun i => (gi I i).1
  sL : Sorted L.length fun i => (gi L i).1
  rA : ∀ i, i < A.length → asR (ga A i)
  fA : ∀ i, i < A.length → (fnI I (ga A i).iss).isSome = true
  rI : ∀ i, i < I.length → 0 ≤ (gi I i).2 ∧ (gi I i).2 ≤ 1125899906842624
  rL : ∀ i, i < L.length → 1 ≤ (gi L i).2 ∧ (gi L i).2 ≤ 1048576
  fL : ∀ i, i < L.length → (fnA A (gi L i).1).isSome = true
theorem rngB_iff (x : As) : rngB x = true ↔ asR x := by
  unfold rngB asR
  simp only [Bool.and_eq_true, decide_eq_true_eq]
  omega
theorem fits_of {A : List As} {I L : List (ByteArray × Int)} (h : fitB A I L = true) : Fits A I L := by
  unfold fitB tabB at h
  simp only [Bool.and_eq_true, decide_eq_true_eq] at h
  obtain ⟨⟨⟨⟨⟨h1, h2⟩, h3⟩, h4⟩, h5⟩, h6⟩ := h
  have g3 := fun i hi => allB_at h3 i hi
  have g4 := fun i hi => allB_at h4 i hi
  refine ⟨h1, h2, holB_len h5, elB_sorted g4, elB_sorted g3, holB_sorted h5, fun i hi => ?_, fun i hi => ?_, fun i hi => ?_, fun i hi => (holB_at h5 i hi).2, fun i hi => allB_at h6 i hi⟩
  · have := elB_ok (g4 i hi)
    unfold assOK at this
    rw [Bool.and_eq_true] at this
    exact (rngB_iff _).1 this.2
  · have := elB_ok (g4 i hi)
    unfold assOK at this
    rw [Bool.and_eq_true, Bool.and_eq_true] at this
    exact this.1.2
  · have := elB_ok (g3 i hi)
    unfold issOK at this
    rw [Bool.and_eq_true, decide_eq_true_eq] at this
    exact this.2

/-- the Mosts of the first k issuers -/
def moK (I : List (ByteArray × Int)) : Nat → ByteArray → Int
  | 0 => fun _ => 0
  | k + 1 => upd (moK I k) (gi I k).1 (gi I k).2
theorem moK_is (I : List (ByteArray × Int)) (hs : Sorted I.length fun i => (gi I i).1) (t : ByteArray) : ∀ k, k ≤ I.length → (∀ i, i < k → (gi I i).1 = t → moK I k t = (gi I i).2) ∧ ((∀ i, i < k → (gi I i).1 ≠ t) → moK I k t = 0) := by
  intro k
  induction k with
  | zero => exact fun _ => ⟨fun i hi => by omega, fun _ => rfl⟩
  | succ k ih =>
    intro hk
    obtain ⟨h1, h2⟩ := ih (by omega)
    have e : moK I (k + 1) t = if (gi I k).1 = t then (gi I k).2 else moK I k t := rfl
    rw [e]
    refine ⟨fun i hi he => ?_, fun hno => ?_⟩
    · by_cases g : (gi I k).1 = t
      · rw [if_pos g]
        have : i = k := hs.inj i k (by omega) (by omega) (he.trans g.symm)
        rw [this]
      · rw [if_neg g]
        exact h1 i (by
          rcases Nat.lt_or_ge i k with q | q
          · exact q
          · obtain rfl : i = k := by omega
            exact absurd he g) he
    · rw [if_neg (hno k (by omega))]
      exact h2 fun i hi => hno i (by omega)
theorem moK_full (I : List (ByteArray × Int)) (hs : Sorted I.length fun i => (gi I i).1) : moK I I.length = moF I := by
  funext t
  obtain ⟨h1, h2⟩ := moK_is I hs t I.length (Nat.le_refl _)
  unfold moF fnI
  rcases fidx_first I.length (fun i => (gi I i).1) t with ⟨i, hi, hl, he, _⟩ | ⟨hi, hno⟩
  · rw [hi]
    exact h1 i hl he
  · rw [hi]
    exact h2 hno
theorem moF_range {A : List As} {I L : List (ByteArray × Int)} (h : Fits A I L) (t : ByteArray) : 0 ≤ moF I t ∧ moF I t ≤ 1125899906842624 := by
  unfold moF fnI
  rcases fidx_first I.length (fun i => (gi I i).1) t with ⟨i, hi, hl, he, _⟩ | ⟨hi, hno⟩
  · rw [hi]
    exact h.rI i hl
  · rw [hi]
    exact ⟨Int.le_refl _, by show (0 : Int) ≤ 1125899906842624; decide⟩
theorem asF_range {A : List As} {I L : List (ByteArray × Int)} (h : Fits A I L) (i : Nat) (hi : i < L.length) : asR (asF A (gi L i).1) ∧ ∃ j, j < A.length ∧ fnA A (gi L i).1 = some j ∧ asF A (gi L i).1 = ga A j := by
  have h1 := h.fL i hi
  unfold asF
  unfold fnA at h1 ⊢
  rcases fidx_first A.length (fun i => (ga A i).nm) (gi L i).1 with ⟨j, hj, hl, he, _⟩ | ⟨hj, hno⟩
  · rw [hj]
    exact ⟨h.rA j hl, j, hl, rfl, rfl⟩
  · rw [hj] at h1
    cases h1
theorem mkP_in {A : List As} {I L : List (ByteArray × Int)} (h : Fits A I L) : ∀ x ∈ mkP A L, inR x := by
  intro x hx
  unfold mkP at hx
  obtain ⟨y, hy, rfl⟩ := List.mem_map.1 hx
  obtain ⟨i, hi, rfl⟩ := List.mem_iff_getElem.1 hy
  have e : gi L i = L[i] := by unfold gi; rw [List.getD_eq_getElem?_getD, List.getElem?_eq_getElem hi]; rfl
  rw [← e]
  exact ⟨(asF_range h i hi).1, by have := h.rL i hi; show 0 ≤ (gi L i).2; omega, (h.rL i hi).2⟩
theorem mkP_take (A : List As) (L : List (ByteArray × Int)) (k : Nat) (hk : k < L.length) : (mkP A L).take (k + 1) = (mkP A L).take k ++ [(asF A (gi L k).1, (gi L k).2)] := by
  have e : gi L k = L[k] := by unfold gi; rw [List.getD_eq_getElem?_getD, List.getElem?_eq_getElem hk]; rfl
  rw [e]
  unfold mkP
  rw [← List.map_take, ← List.map_take, ← List.take_append_getElem hk, List.map_append]
  rfl
theorem mkP_len (A : List As) (L : List (ByteArray × Int)) : (mkP A L).length = L.length := by unfold mkP; simp
end Go.Proofs.Ytbfgnkakcnhojaa.Co
