/-
  The calendar: business days; the walk of the closure that calendar.open returns.
-/
import Derived.Test.YtainmmdlbajpnaaBs
import Derived.Test.YtainmmdlbajpnaaScB
namespace Go.Proofs.Ytainmmdlbajpnaa.Sc
open Go.RowKit Go.Lib Go.Proofs.Ytainmmdlbajpnaa Go.Proofs.Ytainmmdlbajpnaa.Ls Go.Proofs.Ytainmmdlbajpnaa.Kb

/-- is it a business day? -/
def opB (wk : Int) (hs : List Int) (d : Int) : Bool := !hs.contains d && decide (wk / 2 ^ (d % 7).toNat % 2 = 0)

theorem cal_sorted {wk : Int} {hs : List Int} (h : calOK wk hs = true) : hs.Pairwise (· < ·) ∧ wk < 127 ∧ hs.length ≤ 1000 ∧ ∀ x ∈ hs, 0 ≤ x ∧ x ≤ 99999 := by
  unfold calOK at h
  rw [Bool.and_eq_true, Bool.and_eq_true, decide_eq_true_eq, decide_eq_true_eq, List.all_eq_true] at h
  obtain ⟨h1, h2, h3⟩ := h
  have hd : ∀ i, i < hs.length → 0 ≤ hs.getD i 0 ∧ hs.getD i 0 ≤ 99999 ∧ (i = 0 ∨ hs.getD (i - 1) 0 < hs.getD i 0) := fun i hi => by
    have := h3 i (List.mem_range.2 hi)
    unfold dayOK at this
    simp only [Bool.and_eq_true, Bool.or_eq_true, decide_eq_true_eq] at this
    exact this
  have hup : ∀ (j i : Nat), i + j + 1 < hs.length → hs.getD i 0 < hs.getD (i + j + 1) 0 := fun j => by
    induction j with
    | zero =>
      intro i h
      have := (hd (i + 0 + 1) h).2.2
      rcases this with g | g
      · omega
      · simpa using g
    | succ j ih =>
      intro i h
      have h1 := ih i (by omega)
      have h2 := (hd (i + j + 1 + 1) (by omega)).2.2
      rcases h2 with g | g
      · omega
      · rw [show i + j + 1 + 1 - 1 = i + j + 1 by omega] at g
        rw [show i + (j + 1) + 1 = i + j + 1 + 1 by omega]
        omega
  refine ⟨?_, h1, h2, fun x hx => ?_⟩
  · rw [List.pairwise_iff_getElem]
    intro i j hi hj hij
    have := hup (j - i - 1) i (by omega)
    rw [show i + (j - i - 1) + 1 = j by omega, List.getD_eq_getElem?_getD, List.getD_eq_getElem?_getD, List.getElem?_eq_getElem hi, List.getElem?_eq_getElem hj] at this
    exact this
  · obtain ⟨i, hi, rfl⟩ := List.mem_iff_getElem.1 hx
    have := hd i hi
    rw [List.getD_eq_getElem?_getD, List.getElem?_eq_getElem hi] at this
    exact ⟨this.1, this.2.1⟩

set_option maxHeartbeats 1000000 in
theorem search_nil (a : Option Addr) (c : Nat) (x : Int) (w : World) :
    Calls Try.prog 32 #[.slice a 0 c, .int .i64 x] w fun e w' => e = .returned (.tuple #[.int .i64 0, .bool false]) ∧ w = w' := by
  go_enter Try.func32, Try.ntmps32
  go_wp2
  go_loopg [7, 8] 0 (fun _ s7 s8 wr => s7 = .int .i64 0 ∧ s8 = .int .i64 0 ∧ w = wr)
  case atStart => exact ⟨rfl, rfl, rfl⟩
  case round =>
    obtain ⟨rfl, rfl, rfl⟩ := hrel
    go_wp2
    go_ret2
    exact ⟨rfl, rfl⟩
theorem search_all (a : Option Addr) (c : Nat) (hs : List Int) (x : Int) (w : World) (hn : hs.length ≤ 1000) (hA : AtL w 1 ic a hs) (hP : hs.Pairwise (· < ·)) :
    Calls Try.prog 32 #[.slice a hs.length c, .int .i64 x] w fun e w' => ∃ i : Int, e = .returned (.tuple #[.int .i64 i, .bool (hs.contains x)]) ∧ ∃ q, w' = w.drewN q := by
  rcases Nat.eq_zero_or_pos hs.length with h | h
  · obtain rfl : hs = [] := List.length_eq_zero_iff.1 h
    refine (search_nil a c x w).mono ?_
    rintro e w' ⟨rfl, rfl⟩
    exact ⟨0, rfl, 0, rfl⟩
  · obtain ⟨b, off, rfl, _⟩ := at_int hA 0 h
    have := search_any b off hs.length c hs x w (Nat.le_refl _) (by omega) (fun k hk => at_int' hA k hk) (by rw [List.take_length]; exact hP.imp (fun h => Int.le_of_lt h))
    rw [List.take_length] at this
    refine Calls.mono this ?_
    rintro e w' ⟨rfl, q, rfl⟩
    exact ⟨_, rfl, q, rfl⟩

set_option maxRecDepth 100000 in
theorem and_one_fin : ∀ n : Fin 128, (bits BinOp.and IntKind.u8 ((n.val : Nat) : Int) 1 == 0) = decide (((n.val : Nat) : Int) % 2 = 0) := by decide
theorem and_one (x : Int) (h0 : 0 ≤ x) (h1 : x < 128) : (bits BinOp.and IntKind.u8 x 1 == 0) = decide (x % 2 = 0) := by
  obtain ⟨n, rfl⟩ := Int.eq_ofNat_of_zero_le h0
  exact and_one_fin ⟨n, by omega⟩

set_option maxRecDepth 100000 in
set_option maxHeartbeats 1000000 in
theorem op_any (B : Nat) (wk : Int) (a : Option Addr) (c : Nat) (hs : List Int) (d : Int) (w : World) (hx : w.heap[B]? = some (.cells #[.int .u8 wk, .slice a hs.length c] 24 (0, 0))) (hA : AtL w 1 ic a hs) (hC : calOK wk hs = true) (hw : 0 ≤ wk) (hd : 0 ≤ d) :
    Calls Try.prog 69 #[.int .i64 d, .pointer (some ⟨B, 0, none⟩)] w fun e w' => e = .returned (.bool (opB wk hs d)) ∧ ∃ q, w' = w.drewN q := by
  obtain ⟨hP, hk, hn, _⟩ := cal_sorted hC
  have x0 := cell_of hx 0 _ rfl
  have x1 := cell_of hx 1 _ rfl
  have HS := Lib.hid (search_all a c hs d w hn hA hP)
  have HO := Lib.hid (show opB wk hs d = (!hs.contains d && decide (wk / 2 ^ (d % 7).toNat % 2 = 0)) from rfl)
  generalize opB wk hs d = ob at HO ⊢
  generalize hs.contains d = hc at HS HO
  clear hx hA hC hP
  go_enter Try.func69, Try.ntmps69
  go_wp2_with fail
  refine Calls.mono HS.out ?_
  rintro e w' ⟨i, rfl, q, rfl⟩
  cases hc
  · have h1 : 0 ≤ wk / 2 ^ (d % 7).toNat := Int.ediv_nonneg hw (Int.pow_nonneg (by omega))
    have h2 : wk / 2 ^ (d % 7).toNat ≤ wk := Int.ediv_le_self _ hw
    have HB := Lib.hid (and_one (wk / 2 ^ (d % 7).toNat) h1 (by omega))
    clear h1 h2
    go_wp2
    go_ret
    refine ⟨ret_bool ?_, q, rfl⟩
    rw [HO.out, HB.out]
    rfl
  · go_wp2
    go_ret
    exact ⟨ret_bool (by rw [HO.out]; rfl), q, rfl⟩

end Go.Proofs.Ytainmmdlbajpnaa.Sc
