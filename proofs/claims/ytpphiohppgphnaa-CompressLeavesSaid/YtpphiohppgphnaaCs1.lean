/-
  Compress: trades in memory; their order; the contracts of Before, order, Great.
-/
import Derived.Test.YtpphiohppgphnaaRn8
import Derived.Test.YtpphiohppgphnaaNm2
import Derived.Test.YtpphiohppgphnaaKb
import Derived.Test.YtpphiohppgphnaaCz3
import Derived.Lib.Hide
import Derived.BigQuiet
import Derived.IntWalk
import Derived.Deep.CutRange
import Derived.Deep.RegionHeld3
namespace Go.Proofs.Ytpphiohppgphnaa.Cs
open Go.RowKit Go.Proofs.Ytpphiohppgphnaa Go.Proofs.Ytpphiohppgphnaa.Ls Go.Proofs.Ytpphiohppgphnaa.Kb Go.Proofs.Ytpphiohppgphnaa.Cz
open Go.Proofs.Ytpphiohppgphnaa.Nm hiding ret_bool ret_int hb'

def trc (x : Tr) : List Value := [.string x.fr, .string x.to_, .string x.con, .int .i64 x.amt]
theorem trc_len (x : Tr) : (trc x).length = 4 := rfl
theorem trc_one (x : Tr) : ∀ u ∈ trc x, u.oneCell' = true := by simp [trc, Value.oneCell']
theorem at_tr {w : World} {a : Option Addr} {xs : List Tr} (h : AtL w 4 trc a xs) (i : Nat) (hi : i < xs.length) : ∃ b off, a = some ⟨b, off, none⟩ ∧ w.cell? ⟨b, off + i * 4, none⟩ = some (.string (gt xs i).fr) ∧ w.cell? ⟨b, off + i * 4 + 1, none⟩ = some (.string (gt xs i).to_) ∧
    w.cell? ⟨b, off + i * 4 + 2, none⟩ = some (.string (gt xs i).con) ∧ w.cell? ⟨b, off + i * 4 + 3, none⟩ = some (.int .i64 (gt xs i).amt) := by
  obtain ⟨b, off, ha, hc⟩ := h i xs[i] (by rw [List.getElem?_eq_getElem hi])
  refine ⟨b, off, ha, ?_⟩
  rw [gt_at xs i hi]
  exact ⟨hc 0 _ rfl, hc 1 _ rfl, hc 2 _ rfl, hc 3 _ rfl⟩
theorem at_tr' {w : World} {b off : Nat} {xs : List Tr} (h : AtL w 4 trc (some ⟨b, off, none⟩) xs) (i : Nat) (hi : i < xs.length) : w.cell? ⟨b, off + i * 4, none⟩ = some (.string (gt xs i).fr) ∧ w.cell? ⟨b, off + i * 4 + 1, none⟩ = some (.string (gt xs i).to_) ∧
    w.cell? ⟨b, off + i * 4 + 2, none⟩ = some (.string (gt xs i).con) ∧ w.cell? ⟨b, off + i * 4 + 3, none⟩ = some (.int .i64 (gt xs i).amt) := by
  obtain ⟨b', off', ha, h0⟩ := at_tr h i hi
  cases ha
  exact h0
theorem eq_yes {a b : ByteArray} (h : a = b) : (a.toList == b.toList) = true := by rw [h]; simp
theorem eq_no {a b : ByteArray} (h : a ≠ b) : (a.toList == b.toList) = false := by
  rw [beq_eq_false_iff_ne]
  exact fun e => h (str_ext e)
theorem below_drewN {B : Nat} {a w : World} (h : Below B a w) (n : Nat) : Below B a (w.drewN n) := h.trans ⟨rfl, rfl, rfl, Nat.le_refl _, fun _ _ => rfl⟩
/-- is a trade ahead of another one? -/
def bef (a b : Tr) : Bool := if a.con ≠ b.con then lt a.con b.con else if a.fr ≠ b.fr then lt a.fr b.fr else lt a.to_ b.to_
def ordI (a b : Tr) : Int := if cmpS a.con b.con ≠ 0 then cmpS a.con b.con else if cmpS a.fr b.fr ≠ 0 then cmpS a.fr b.fr else cmpS a.to_ b.to_
theorem ordI_bef (a b : Tr) : decide (0 ≤ ordI a b) = !bef a b := by
  have key : ∀ x y : ByteArray, decide (0 ≤ cmpS x y) = !lt x y := fun x y => by
    cases h : lt x y
    · exact decide_eq_true (by have := (not_congr (cmpS_neg x y)).2 (by rw [h]; decide); omega)
    · exact decide_eq_false (by have := (cmpS_neg x y).2 h; omega)
  have hz : ∀ x y : ByteArray, (cmpS x y ≠ 0) = (x ≠ y) := fun x y => propext (not_congr (cmpS_zero x y))
  unfold ordI bef
  simp only [hz]
  split
  · exact key _ _
  · split
    · exact key _ _
    · exact key _ _
theorem bef_lt {a b : Tr} : bef a b = true ↔ lt a.con b.con = true ∨ (a.con = b.con ∧ (lt a.fr b.fr = true ∨ (a.fr = b.fr ∧ lt a.to_ b.to_ = true))) := by
  unfold bef
  by_cases h1 : a.con = b.con
  · rw [if_neg (fun h => h h1), h1, lt_irrefl]
    by_cases h2 : a.fr = b.fr
    · rw [if_neg (fun h => h h2), h2, lt_irrefl]
      simp
    · rw [if_pos h2]
      simp [h2]
  · rw [if_pos h1]
    simp [h1]
theorem bef_trans {a b c : Tr} (h : bef a b = true) (k : bef b c = true) : bef a c = true := by
  rw [bef_lt] at h k ⊢
  rcases h with h | ⟨h1, h2⟩
  · rcases k with k | ⟨k1, _⟩
    · exact .inl (lt_trans h k)
    · rw [← k1]; exact .inl h
  · rw [h1]
    rcases k with k | ⟨k1, k2⟩
    · exact .inl k
    · refine .inr ⟨k1, ?_⟩
      rcases h2 with h2 | ⟨h2, h3⟩
      · rcases k2 with k2 | ⟨k2, _⟩
        · exact .inl (lt_trans h2 k2)
        · rw [← k2]; exact .inl h2
      · rw [h2]
        rcases k2 with k2 | ⟨k2, k3⟩
        · exact .inl k2
        · exact .inr ⟨k2, lt_trans h3 k3⟩
theorem bef_irrefl (a : Tr) : bef a a = false := by
  rw [Bool.eq_false_iff]
  intro h
  rw [bef_lt] at h
  simp [lt_irrefl] at h

set_option maxRecDepth 100000 in
set_option maxHeartbeats 1000000 in
theorem before_any (x y : Tr) (w : World) :
    Calls Try.prog 36 #[.agg #[.string x.fr, .string x.to_, .string x.con, .int .i64 x.amt], .agg #[.string y.fr, .string y.to_, .string y.con, .int .i64 y.amt]] w fun e w' => e = .returned (.bool (bef x y)) ∧ Below w.heap.size w w' := by
  obtain ⟨xf, xt, xc, xa⟩ := x
  obtain ⟨yf, yt, yc, ya⟩ := y
  unfold bef
  dsimp only
  have hb2 : Below w.heap.size w ((w.alloc (.cells #[.string xf, .string xt, .string xc, .int .i64 xa] 31)).alloc (.cells #[.string yf, .string yt, .string yc, .int .i64 ya] 31)) := ((Below.refl _ _).alloc (Nat.le_refl _) _).alloc (by simp) _
  by_cases h1 : xc = yc
  · have e1 := eq_yes h1
    rw [if_neg (fun h => h h1)]
    clear h1
    by_cases h2 : xf = yf
    · have e2 := eq_yes h2
      rw [if_neg (fun h => h h2)]
      clear h2
      go_enter Try.func36, Try.ntmps36
      go_wp2
      go_ret
      exact ⟨rfl, hb2⟩
    · have e2 := eq_no h2
      rw [if_pos h2]
      clear h2
      go_enter Try.func36, Try.ntmps36
      go_wp2
      go_ret
      exact ⟨rfl, hb2⟩
  · have e1 := eq_no h1
    rw [if_pos h1]
    clear h1
    go_enter Try.func36, Try.ntmps36
    go_wp2
    go_ret
    exact ⟨rfl, hb2⟩
end Go.Proofs.Ytpphiohppgphnaa.Cs
