/-
  Collateral: what lies in memory; looking up by name.
-/
import Derived.Test.YtbfgnkakcnhojaaRn
import Derived.Test.YtbfgnkakcnhojaaNm2
import Derived.Test.YtbfgnkakcnhojaaKb
import Derived.Lib.Hide
import Derived.BigQuiet
import Derived.Deep.CutRange
import Derived.Deep.RegionHeld3
namespace Go.Proofs.Ytbfgnkakcnhojaa.Co
open Go.RowKit Go.Proofs.Ytbfgnkakcnhojaa Go.Proofs.Ytbfgnkakcnhojaa.Ls Go.Proofs.Ytbfgnkakcnhojaa.Kb
open Go.Proofs.Ytbfgnkakcnhojaa.Nm hiding ret_bool ret_int

/-- an asset -/
structure As where
  nm : ByteArray
  iss : ByteArray
  pr : Int
  hc : Int
  mo : Int
  el : Bool
def a0 : As := ⟨⟨#[]⟩, ⟨#[]⟩, 0, 0, 0, false⟩
def i0 : ByteArray × Int := (⟨#[]⟩, 0)
/-- the cells of an issuer or a holding, and of an asset -/
def isc (x : ByteArray × Int) : List Value := [.string x.1, .int .i64 x.2]
def asc (x : As) : List Value := [.string x.nm, .string x.iss, .int .i64 x.pr, .int .i64 x.hc, .int .i64 x.mo, .bool x.el]
theorem isc_len (x : ByteArray × Int) : (isc x).length = 2 := rfl
theorem asc_len (x : As) : (asc x).length = 6 := rfl
theorem isc_one (x : ByteArray × Int) : ∀ u ∈ isc x, u.oneCell' = true := by simp [isc, Value.oneCell']
theorem asc_one (x : As) : ∀ u ∈ asc x, u.oneCell' = true := by simp [asc, Value.oneCell']

theorem at_is {w : World} {a : Option Addr} {xs : List (ByteArray × Int)} (h : AtL w 2 isc a xs) (i : Nat) (hi : i < xs.length) : ∃ b off, a = some ⟨b, off, none⟩ ∧ w.cell? ⟨b, off + i * 2, none⟩ = some (.string (xs.getD i i0).1) ∧ w.cell? ⟨b, off + i * 2 + 1, none⟩ = some (.int .i64 (xs.getD i i0).2) := by
  obtain ⟨b, off, ha, hc⟩ := h i xs[i] (by rw [List.getElem?_eq_getElem hi])
  refine ⟨b, off, ha, ?_⟩
  rw [List.getD_eq_getElem?_getD, List.getElem?_eq_getElem hi]
  exact ⟨hc 0 _ rfl, hc 1 _ rfl⟩
theorem at_is' {w : World} {b off : Nat} {xs : List (ByteArray × Int)} (h : AtL w 2 isc (some ⟨b, off, none⟩) xs) (i : Nat) (hi : i < xs.length) : w.cell? ⟨b, off + i * 2, none⟩ = some (.string (xs.getD i i0).1) ∧ w.cell? ⟨b, off + i * 2 + 1, none⟩ = some (.int .i64 (xs.getD i i0).2) := by
  obtain ⟨b', off', ha, h0, h1⟩ := at_is h i hi
  cases ha
  exact ⟨h0, h1⟩
theorem at_as {w : World} {a : Option Addr} {xs : List As} (h : AtL w 6 asc a xs) (i : Nat) (hi : i < xs.length) : ∃ b off, a = some ⟨b, off, none⟩ ∧ w.cell? ⟨b, off + i * 6, none⟩ = some (.string (xs.getD i a0).nm) ∧ w.cell? ⟨b, off + i * 6 + 1, none⟩ = some (.string (xs.getD i a0).iss) ∧
    w.cell? ⟨b, off + i * 6 + 2, none⟩ = some (.int .i64 (xs.getD i a0).pr) ∧ w.cell? ⟨b, off + i * 6 + 3, none⟩ = some (.int .i64 (xs.getD i a0).hc) ∧ w.cell? ⟨b, off + i * 6 + 4, none⟩ = some (.int .i64 (xs.getD i a0).mo) ∧ w.cell? ⟨b, off + i * 6 + 5, none⟩ = some (.bool (xs.getD i a0).el) := by
  obtain ⟨b, off, ha, hc⟩ := h i xs[i] (by rw [List.getElem?_eq_getElem hi])
  refine ⟨b, off, ha, ?_⟩
  rw [List.getD_eq_getElem?_getD, List.getElem?_eq_getElem hi]
  exact ⟨hc 0 _ rfl, hc 1 _ rfl, hc 2 _ rfl, hc 3 _ rfl, hc 4 _ rfl, hc 5 _ rfl⟩
theorem at_as' {w : World} {b off : Nat} {xs : List As} (h : AtL w 6 asc (some ⟨b, off, none⟩) xs) (i : Nat) (hi : i < xs.length) : w.cell? ⟨b, off + i * 6, none⟩ = some (.string (xs.getD i a0).nm) ∧ w.cell? ⟨b, off + i * 6 + 1, none⟩ = some (.string (xs.getD i a0).iss) ∧
    w.cell? ⟨b, off + i * 6 + 2, none⟩ = some (.int .i64 (xs.getD i a0).pr) ∧ w.cell? ⟨b, off + i * 6 + 3, none⟩ = some (.int .i64 (xs.getD i a0).hc) ∧ w.cell? ⟨b, off + i * 6 + 4, none⟩ = some (.int .i64 (xs.getD i a0).mo) ∧ w.cell? ⟨b, off + i * 6 + 5, none⟩ = some (.bool (xs.getD i a0).el) := by
  obtain ⟨b', off', ha, h0⟩ := at_as h i hi
  cases ha
  exact h0

/-- the elements by their index, and their names -/
def gi (xs : List (ByteArray × Int)) (i : Nat) : ByteArray × Int := xs.getD i i0
def ga (xs : List As) (i : Nat) : As := xs.getD i a0
/-- is there one of this name among the first n, and which? -/
def Found (n : Nat) (f : Nat → ByteArray) (t : ByteArray) (r : Option Nat) : Prop := (∃ i, r = some i ∧ i < n ∧ f i = t) ∨ (r = none ∧ ∀ i, i < n → f i ≠ t)
theorem found_exists (n : Nat) (f : Nat → ByteArray) (t : ByteArray) : ∃ r, Found n f t r := by
  by_cases h : ∃ i, i < n ∧ f i = t
  · obtain ⟨i, h1, h2⟩ := h
    exact ⟨some i, .inl ⟨i, rfl, h1, h2⟩⟩
  · exact ⟨none, .inr ⟨rfl, fun i hi he => h ⟨i, hi, he⟩⟩⟩
/-- in order: where the search ends -/
theorem found_place {n : Nat} {f : Nat → ByteArray} {t : ByteArray} {r : Option Nat} (hs : Sorted n f) (h : Found n f t r) : ∃ J, J ≤ n ∧ (∀ i, i < J → lt (f i) t = true) ∧ (∀ i, J ≤ i → i < n → lt (f i) t = false) ∧
    ((∃ i, r = some i ∧ i = J ∧ J < n ∧ cmpS (f J) t = 0) ∨ (r = none ∧ (J < n → cmpS (f J) t ≠ 0))) := by
  rcases h with ⟨i, rfl, hi, rfl⟩ | ⟨rfl, hno⟩
  · obtain ⟨h1, h2⟩ := hs.at i hi
    exact ⟨i, Nat.le_of_lt hi, h1, h2, .inl ⟨i, rfl, rfl, hi, (cmpS_zero _ _).2 rfl⟩⟩
  · obtain ⟨J, h1, h2, h3⟩ := hs.place t
    exact ⟨J, h1, h2, h3, .inr ⟨rfl, fun hJ hc => hno J hJ ((cmpS_zero _ _).1 hc)⟩⟩
theorem found_uniq {n : Nat} {f : Nat → ByteArray} {t : ByteArray} {r q : Option Nat} (hs : Sorted n f) (h : Found n f t r) (k : Found n f t q) : r = q := by
  rcases h with ⟨i, rfl, hi, ei⟩ | ⟨rfl, hno⟩ <;> rcases k with ⟨j, rfl, hj, ej⟩ | ⟨rfl, kno⟩
  · rw [hs.inj i j hi hj (ei.trans ej.symm)]
  · exact absurd ei (kno i hi)
  · exact absurd ej (hno j hj)
  · rfl
end Go.Proofs.Ytbfgnkakcnhojaa.Co
