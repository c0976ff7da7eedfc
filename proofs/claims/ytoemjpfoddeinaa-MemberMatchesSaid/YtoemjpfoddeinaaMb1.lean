/-
  Member: members and accounts; what is valid; small functions.
-/
import Derived.Test.YtoemjpfoddeinaaRn
import Derived.Test.YtoemjpfoddeinaaNm2
import Derived.Test.YtoemjpfoddeinaaKb
import Derived.Test.YtoemjpfoddeinaaLs3
import Derived.Test.YtoemjpfoddeinaaLs4
import Derived.Lib.Hide
import Derived.BigQuiet
import Derived.IntWalk
import Derived.Deep.CutRange
import Derived.Deep.RegionHeld3
namespace Go.Proofs.Ytoemjpfoddeinaa.Mb
open Go.RowKit Go.Proofs.Ytoemjpfoddeinaa Go.Proofs.Ytoemjpfoddeinaa.Ls Go.Proofs.Ytoemjpfoddeinaa.Kb
open Go.Proofs.Ytoemjpfoddeinaa.Nm hiding ret_bool ret_int

/-- an account; a member -/
structure Ac where
  nm : ByteArray
  cl : Bool
  lim : Int
  us : Int
structure Me where
  nm : ByteArray
  ro : Int
  su : Bool
  lim : Int
  ac : List Ac
def ac0 : Ac := ⟨⟨#[]⟩, false, 0, 0⟩
def me0 : Me := ⟨⟨#[]⟩, 0, false, 0, []⟩
def ga (xs : List Ac) (i : Nat) : Ac := xs.getD i ac0
def gm (xs : List Me) (i : Nat) : Me := xs.getD i me0
/-- a member and where its accounts lie: address and room -/
abbrev P := Me × (Option Addr × Nat)
def p0 : P := (me0, (none, 0))
def gp (xs : List P) (i : Nat) : P := xs.getD i p0
def acc (x : Ac) : List Value := [.string x.nm, .bool x.cl, .int .i64 x.lim, .int .i64 x.us]
def mec (x : P) : List Value := [.string x.1.nm, .int .u8 x.1.ro, .bool x.1.su, .int .i64 x.1.lim, .slice x.2.1 x.1.ac.length x.2.2]
theorem acc_len (x : Ac) : (acc x).length = 4 := rfl
theorem mec_len (x : P) : (mec x).length = 5 := rfl
theorem acc_one (x : Ac) : ∀ u ∈ acc x, u.oneCell' = true := by simp [acc, Value.oneCell']
theorem mec_one (x : P) : ∀ u ∈ mec x, u.oneCell' = true := by simp [mec, Value.oneCell']
/-- members in memory -/
structure AtM (w : World) (a : Option Addr) (xs : List P) : Prop where
  ms : AtL w 5 mec a xs
  ac : ∀ x ∈ xs, AtL w 4 acc x.2.1 x.1.ac
theorem AtM.below {w w' : World} {a : Option Addr} {xs : List P} (h : AtM w a xs) (hb : Below w.heap.size w w') : AtM w' a xs := ⟨h.ms.below hb, fun x hx => (h.ac x hx).below hb⟩
theorem AtM.nil (w : World) (a : Option Addr) : AtM w a [] := ⟨AtL.nil _ _ _ _, fun x hx => by cases hx⟩
theorem gp_mem (xs : List P) (i : Nat) (h : i < xs.length) : gp xs i ∈ xs := by unfold gp; rw [List.getD_eq_getElem?_getD, List.getElem?_eq_getElem h]; exact List.getElem_mem _
theorem ga_mem (xs : List Ac) (i : Nat) (h : i < xs.length) : ga xs i ∈ xs := by unfold ga; rw [List.getD_eq_getElem?_getD, List.getElem?_eq_getElem h]; exact List.getElem_mem _
theorem gm_map (xs : List P) (i : Nat) : gm (xs.map Prod.fst) i = (gp xs i).1 := by
  unfold gm gp
  rw [List.getD_eq_getElem?_getD, List.getD_eq_getElem?_getD, List.getElem?_map]
  cases xs[i]? <;> rfl
theorem at_p {w : World} {a : Option Addr} {xs : List P} (h : AtL w 5 mec a xs) (i : Nat) (hi : i < xs.length) : ∃ b off, a = some ⟨b, off, none⟩ ∧ w.cell? ⟨b, off + i * 5, none⟩ = some (.string (gp xs i).1.nm) ∧ w.cell? ⟨b, off + i * 5 + 1, none⟩ = some (.int .u8 (gp xs i).1.ro) ∧
    w.cell? ⟨b, off + i * 5 + 2, none⟩ = some (.bool (gp xs i).1.su) ∧ w.cell? ⟨b, off + i * 5 + 3, none⟩ = some (.int .i64 (gp xs i).1.lim) ∧ w.cell? ⟨b, off + i * 5 + 4, none⟩ = some (.slice (gp xs i).2.1 (gp xs i).1.ac.length (gp xs i).2.2) := by
  obtain ⟨b, off, ha, hc⟩ := h i xs[i] (by rw [List.getElem?_eq_getElem hi])
  refine ⟨b, off, ha, ?_⟩
  unfold gp
  rw [List.getD_eq_getElem?_getD, List.getElem?_eq_getElem hi]
  exact ⟨hc 0 _ rfl, hc 1 _ rfl, hc 2 _ rfl, hc 3 _ rfl, hc 4 _ rfl⟩
theorem at_p' {w : World} {b off : Nat} {xs : List P} (h : AtL w 5 mec (some ⟨b, off, none⟩) xs) (i : Nat) (hi : i < xs.length) : w.cell? ⟨b, off + i * 5, none⟩ = some (.string (gp xs i).1.nm) ∧ w.cell? ⟨b, off + i * 5 + 1, none⟩ = some (.int .u8 (gp xs i).1.ro) ∧
    w.cell? ⟨b, off + i * 5 + 2, none⟩ = some (.bool (gp xs i).1.su) ∧ w.cell? ⟨b, off + i * 5 + 3, none⟩ = some (.int .i64 (gp xs i).1.lim) ∧ w.cell? ⟨b, off + i * 5 + 4, none⟩ = some (.slice (gp xs i).2.1 (gp xs i).1.ac.length (gp xs i).2.2) := by
  obtain ⟨b', off', ha, h0⟩ := at_p h i hi
  cases ha
  exact h0
theorem at_a {w : World} {a : Option Addr} {xs : List Ac} (h : AtL w 4 acc a xs) (i : Nat) (hi : i < xs.length) : ∃ b off, a = some ⟨b, off, none⟩ ∧ w.cell? ⟨b, off + i * 4, none⟩ = some (.string (ga xs i).nm) ∧ w.cell? ⟨b, off + i * 4 + 1, none⟩ = some (.bool (ga xs i).cl) ∧
    w.cell? ⟨b, off + i * 4 + 2, none⟩ = some (.int .i64 (ga xs i).lim) ∧ w.cell? ⟨b, off + i * 4 + 3, none⟩ = some (.int .i64 (ga xs i).us) := by
  obtain ⟨b, off, ha, hc⟩ := h i xs[i] (by rw [List.getElem?_eq_getElem hi])
  refine ⟨b, off, ha, ?_⟩
  unfold ga
  rw [List.getD_eq_getElem?_getD, List.getElem?_eq_getElem hi]
  exact ⟨hc 0 _ rfl, hc 1 _ rfl, hc 2 _ rfl, hc 3 _ rfl⟩
theorem at_a' {w : World} {b off : Nat} {xs : List Ac} (h : AtL w 4 acc (some ⟨b, off, none⟩) xs) (i : Nat) (hi : i < xs.length) : w.cell? ⟨b, off + i * 4, none⟩ = some (.string (ga xs i).nm) ∧ w.cell? ⟨b, off + i * 4 + 1, none⟩ = some (.bool (ga xs i).cl) ∧
    w.cell? ⟨b, off + i * 4 + 2, none⟩ = some (.int .i64 (ga xs i).lim) ∧ w.cell? ⟨b, off + i * 4 + 3, none⟩ = some (.int .i64 (ga xs i).us) := by
  obtain ⟨b', off', ha, h0⟩ := at_a h i hi
  cases ha
  exact h0
theorem eq_yes {a b : ByteArray} (h : a = b) : (a.toList == b.toList) = true := by rw [h]; simp
theorem eq_no {a b : ByteArray} (h : a ≠ b) : (a.toList == b.toList) = false := by
  rw [beq_eq_false_iff_ne]
  exact fun e => h (str_ext e)
theorem neq_no {a b : ByteArray} (h : a = b) : (a.toList != b.toList) = false := by rw [h]; simp
theorem neq_yes {a b : ByteArray} (h : a ≠ b) : (a.toList != b.toList) = true := by
  rw [bne_iff_ne]
  exact fun e => h (str_ext e)
theorem eqd (a b : ByteArray) : (a.toList == b.toList) = decide (a = b) := by
  by_cases h : a = b
  · rw [eq_yes h, decide_eq_true h]
  · rw [eq_no h, decide_eq_false h]
theorem below_drewN {B : Nat} {a w : World} (h : Below B a w) (n : Nat) : Below B a (w.drewN n) := h.trans ⟨rfl, rfl, rfl, Nat.le_refl _, fun _ _ => rfl⟩

/-- what is valid -/
def mon (n : Int) : Bool := decide (0 ≤ n) && decide (n ≤ 1125899906842624)
def sig (n : Int) : Bool := decide (-1125899906842624 ≤ n) && decide (n ≤ 1125899906842624)
def ab (n : Int) : Int := max n (-n)
def house : ByteArray := ⟨#[104, 111, 117, 115, 101]⟩
def okA (ro : Int) (a : Ac) : Bool := nm a.nm && !(a.cl && (ro == 2)) && mon a.lim && !decide (a.us < -a.lim) && !decide (a.lim < a.us)
/-- names in order -/
def srt : List ByteArray → Bool
  | [] => true
  | x :: l => (match l with
    | [] => true
    | y :: _ => lt x y) && srt l
def ex (l : List Ac) : Int := l.foldl (fun s a => s + ab a.us) 0
def val (m : Me) : Bool := nm m.nm && !decide (m.nm = house) && (m.ro == 1 || m.ro == 2) && mon m.lim && decide (m.ac.length ≤ 16) && srt (m.ac.map Ac.nm) && m.ac.all (okA m.ro) && decide (ex m.ac ≤ m.lim)
def chk (ms : List Me) : Int := if decide (ms.length ≤ 64) && srt (ms.map Me.nm) && ms.all val then 0 else 8
theorem ex_snoc (l : List Ac) (x : Ac) : ex (l ++ [x]) = ex l + ab x.us := by unfold ex; rw [List.foldl_append]; rfl
theorem ab_nonneg (n : Int) : 0 ≤ ab n := by unfold ab; omega

/-! small functions -/
set_option maxRecDepth 100000 in
theorem money_any (n : Int) (w : World) : Calls Try.prog 47 #[.int .i64 n] w fun e w' => e = .returned (.bool (mon n)) ∧ w' = w := by
  by_cases h0 : 0 ≤ n
  · by_cases h1 : n ≤ 1125899906842624
    · have HB := Lib.hid (show mon n = true by unfold mon; rw [decide_eq_true h0, decide_eq_true h1]; rfl)
      go_enter Try.func47, Try.ntmps47
      go_wp2
      go_ret
      exact ⟨ret_bool HB.out.symm, rfl⟩
    · have HB := Lib.hid (show mon n = false by unfold mon; rw [decide_eq_false h1, Bool.and_false])
      go_enter Try.func47, Try.ntmps47
      go_wp2
      go_ret
      exact ⟨ret_bool HB.out.symm, rfl⟩
  · have HB := Lib.hid (show mon n = false by unfold mon; rw [decide_eq_false h0, Bool.false_and])
    go_enter Try.func47, Try.ntmps47
    go_wp2
    go_ret
    exact ⟨ret_bool HB.out.symm, rfl⟩
set_option maxRecDepth 100000 in
theorem signed_any (n : Int) (w : World) : Calls Try.prog 55 #[.int .i64 n] w fun e w' => e = .returned (.bool (sig n)) ∧ w' = w := by
  by_cases h0 : -1125899906842624 ≤ n
  · by_cases h1 : n ≤ 1125899906842624
    · have HB := Lib.hid (show sig n = true by unfold sig; rw [decide_eq_true h0, decide_eq_true h1]; rfl)
      go_enter Try.func55, Try.ntmps55
      go_wp2
      go_ret
      exact ⟨ret_bool HB.out.symm, rfl⟩
    · have HB := Lib.hid (show sig n = false by unfold sig; rw [decide_eq_false h1, Bool.and_false])
      go_enter Try.func55, Try.ntmps55
      go_wp2
      go_ret
      exact ⟨ret_bool HB.out.symm, rfl⟩
  · have HB := Lib.hid (show sig n = false by unfold sig; rw [decide_eq_false h0, Bool.false_and])
    go_enter Try.func55, Try.ntmps55
    go_wp2
    go_ret
    exact ⟨ret_bool HB.out.symm, rfl⟩
theorem abs_any (n : Int) (w : World) (h : -9223372036854775807 ≤ n ∧ n ≤ 9223372036854775807) : Calls Try.prog 56 #[.int .i64 n] w fun e w' => e = .returned (.int .i64 (ab n)) ∧ w' = w := by
  have e : IntKind.i64.wrap (-n) = -n := IntWalk.i64_in _ (by omega)
  have HB := Lib.hid (show ab n = if n < -n then -n else n by unfold ab; split <;> omega)
  go_enter Try.func56, Try.ntmps56
  go_wp2
  all_goals
    go_ret
    rw [HB.out]
    first | exact ⟨rfl, rfl⟩ | (refine ⟨ret_int ?_, rfl⟩; split <;> omega)
theorem mname_any (x : P) (w : World) : Calls Try.prog 41 #[.agg #[.string x.1.nm, .int .u8 x.1.ro, .bool x.1.su, .int .i64 x.1.lim, .slice x.2.1 x.1.ac.length x.2.2]] w fun e w' => e = .returned (.string x.1.nm) ∧ Below w.heap.size w w' := by
  have hb : Below w.heap.size w (w.alloc (.cells #[.string x.1.nm, .int .u8 x.1.ro, .bool x.1.su, .int .i64 x.1.lim, .slice x.2.1 x.1.ac.length x.2.2] 30)) := (Below.refl _ _).alloc (Nat.le_refl _) _
  go_enter Try.func41, Try.ntmps41
  go_wp2
  go_ret
  exact ⟨rfl, hb⟩
theorem aname_any (x : Ac) (w : World) : Calls Try.prog 51 #[.agg #[.string x.nm, .bool x.cl, .int .i64 x.lim, .int .i64 x.us]] w fun e w' => e = .returned (.string x.nm) ∧ Below w.heap.size w w' := by
  have hb : Below w.heap.size w (w.alloc (.cells #[.string x.nm, .bool x.cl, .int .i64 x.lim, .int .i64 x.us] 32)) := (Below.refl _ _).alloc (Nat.le_refl _) _
  go_enter Try.func51, Try.ntmps51
  go_wp2
  go_ret
  exact ⟨rfl, hb⟩
end Go.Proofs.Ytoemjpfoddeinaa.Mb
