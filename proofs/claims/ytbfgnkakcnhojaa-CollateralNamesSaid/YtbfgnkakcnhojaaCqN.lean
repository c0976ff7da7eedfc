/-
  The walk of the law CollateralNames.
-/
import Derived.Test.YtbfgnkakcnhojaaCoZ
import Derived.Test.YtbfgnkakcnhojaaCoU
namespace Go.Proofs.Ytbfgnkakcnhojaa.Co
open Go.RowKit Go.Proofs.Ytbfgnkakcnhojaa Go.Proofs.Ytbfgnkakcnhojaa.Ls Go.Proofs.Ytbfgnkakcnhojaa.Kb
open Go.Proofs.Ytbfgnkakcnhojaa.Nm hiding ret_bool ret_int

theorem set_blk {w : World} {b o : Nat} {T : TypeId} {cs ds : Array Value} (h : w.heap[b]? = some (.cells cs T (0, 0))) (v : Value) (hd : ds = setA cs o [v]) : (w.setCell ⟨b, o, none⟩ v).heap[b]? = some (.cells ds T (0, 0)) := by
  rw [hd]
  exact heap_setCells [v] w cs o h
theorem set_far {w : World} {b g : Nat} {o : Nat} {ob : Obj} (h : w.heap[b]? = some ob) (v : Value) (hne : g ≠ b) : (w.setCell ⟨g, o, none⟩ v).heap[b]? = some ob := by
  rw [← h]
  exact Below.heap_setCell w ⟨g, o, none⟩ v b (fun e => hne e.symm)
def mdA0 : List As := [⟨⟨#[97]⟩, ⟨#[105]⟩, 33554433, 100, 1000, true⟩, ⟨⟨#[98]⟩, ⟨#[105]⟩, 10, 0, 1000, true⟩]
def mdI0 : List (ByteArray × Int) := [(⟨#[105]⟩, 150)]
theorem md_szA0 : SzA mdA0 := szA_of (by intro x hx; simp only [mdA0, List.mem_cons, List.not_mem_nil, or_false] at hx; rcases hx with rfl | rfl <;> exact ⟨by decide, by decide⟩)
theorem md_szI0 : SzL mdI0 := szL_of (by intro x hx; simp only [mdI0, List.mem_cons, List.not_mem_nil, or_false] at hx; subst hx; decide)
theorem md_tab0 (x y : Nat) (w : World) (hx : w.heap[x]? = some (.cells #[.string ⟨#[97]⟩, .string ⟨#[105]⟩, .int .i64 33554433, .int .i64 100, .int .i64 1000, .bool true, .string ⟨#[98]⟩, .string ⟨#[105]⟩, .int .i64 10, .int .i64 0, .int .i64 1000, .bool true] 48 (0, 0))) (hy : w.heap[y]? = some (.cells #[.string ⟨#[105]⟩, .int .i64 150] 50 (0, 0))) :
    Calls Try.prog 23 #[.agg #[.slice (some ⟨x, 0, none⟩) 2 2, .slice (some ⟨y, 0, none⟩) 1 1]] w fun e w' => e = .returned (.int .i64 8) ∧ Below w.heap.size w w' := by
  have h := table_any (some ⟨x, 0, none⟩) (some ⟨y, 0, none⟩) 2 1 mdA0 mdI0 w (by decide) (by decide) md_szA0 md_szI0 (atL_blk asc_len hx rfl) (atL_blk isc_len hy rfl)
  rw [show tabB mdA0 mdI0 = false from by kernel_rfl] at h
  exact h
theorem md_chk0 (x y : Nat) (w : World) (hx : w.heap[x]? = some (.cells #[.string ⟨#[97]⟩, .string ⟨#[105]⟩, .int .i64 33554433, .int .i64 100, .int .i64 1000, .bool true, .string ⟨#[98]⟩, .string ⟨#[105]⟩, .int .i64 10, .int .i64 0, .int .i64 1000, .bool true] 48 (0, 0))) (hy : w.heap[y]? = some (.cells #[.string ⟨#[105]⟩, .int .i64 150] 50 (0, 0))) :
    Calls Try.prog 25 #[.agg #[.slice (some ⟨x, 0, none⟩) 2 2, .slice (some ⟨y, 0, none⟩) 1 1], .slice none 0 0] w fun e w' => e = .returned (.int .i64 8) ∧ Below w.heap.size w w' := by
  have h := check_any (some ⟨x, 0, none⟩) (some ⟨y, 0, none⟩) none 2 1 0 mdA0 mdI0 [] w (by decide) (by decide) (by decide) md_szA0 md_szI0 (fun _ => Nat.zero_le _) (atL_blk asc_len hx rfl) (atL_blk isc_len hy rfl) (AtL.nil _ _ _ _)
  rw [show fitB mdA0 mdI0 [] = false from by kernel_rfl] at h
  exact h
def mdA1 : List As := [⟨⟨#[97]⟩, ⟨#[105]⟩, 100, 1001, 1000, true⟩, ⟨⟨#[98]⟩, ⟨#[105]⟩, 10, 0, 1000, true⟩]
def mdI1 : List (ByteArray × Int) := [(⟨#[105]⟩, 150)]
theorem md_szA1 : SzA mdA1 := szA_of (by intro x hx; simp only [mdA1, List.mem_cons, List.not_mem_nil, or_false] at hx; rcases hx with rfl | rfl <;> exact ⟨by decide, by decide⟩)
theorem md_szI1 : SzL mdI1 := szL_of (by intro x hx; simp only [mdI1, List.mem_cons, List.not_mem_nil, or_false] at hx; subst hx; decide)
theorem md_tab1 (x y : Nat) (w : World) (hx : w.heap[x]? = some (.cells #[.string ⟨#[97]⟩, .string ⟨#[105]⟩, .int .i64 100, .int .i64 1001, .int .i64 1000, .bool true, .string ⟨#[98]⟩, .string ⟨#[105]⟩, .int .i64 10, .int .i64 0, .int .i64 1000, .bool true] 48 (0, 0))) (hy : w.heap[y]? = some (.cells #[.string ⟨#[105]⟩, .int .i64 150] 50 (0, 0))) :
    Calls Try.prog 23 #[.agg #[.slice (some ⟨x, 0, none⟩) 2 2, .slice (some ⟨y, 0, none⟩) 1 1]] w fun e w' => e = .returned (.int .i64 8) ∧ Below w.heap.size w w' := by
  have h := table_any (some ⟨x, 0, none⟩) (some ⟨y, 0, none⟩) 2 1 mdA1 mdI1 w (by decide) (by decide) md_szA1 md_szI1 (atL_blk asc_len hx rfl) (atL_blk isc_len hy rfl)
  rw [show tabB mdA1 mdI1 = false from by kernel_rfl] at h
  exact h
theorem md_chk1 (x y : Nat) (w : World) (hx : w.heap[x]? = some (.cells #[.string ⟨#[97]⟩, .string ⟨#[105]⟩, .int .i64 100, .int .i64 1001, .int .i64 1000, .bool true, .string ⟨#[98]⟩, .string ⟨#[105]⟩, .int .i64 10, .int .i64 0, .int .i64 1000, .bool true] 48 (0, 0))) (hy : w.heap[y]? = some (.cells #[.string ⟨#[105]⟩, .int .i64 150] 50 (0, 0))) :
    Calls Try.prog 25 #[.agg #[.slice (some ⟨x, 0, none⟩) 2 2, .slice (some ⟨y, 0, none⟩) 1 1], .slice none 0 0] w fun e w' => e = .returned (.int .i64 8) ∧ Below w.heap.size w w' := by
  have h := check_any (some ⟨x, 0, none⟩) (some ⟨y, 0, none⟩) none 2 1 0 mdA1 mdI1 [] w (by decide) (by decide) (by decide) md_szA1 md_szI1 (fun _ => Nat.zero_le _) (atL_blk asc_len hx rfl) (atL_blk isc_len hy rfl) (AtL.nil _ _ _ _)
  rw [show fitB mdA1 mdI1 [] = false from by kernel_rfl] at h
  exact h
def mdA2 : List As := [⟨⟨#[97]⟩, ⟨#[106]⟩, 100, 100, 1000, true⟩, ⟨⟨#[98]⟩, ⟨#[105]⟩, 10, 0, 1000, true⟩]
def mdI2 : List (ByteArray × Int) := [(⟨#[105]⟩, 150)]
theorem md_szA2 : SzA mdA2 := szA_of (by intro x hx; simp only [mdA2, List.mem_cons, List.not_mem_nil, or_false] at hx; rcases hx with rfl | rfl <;> exact ⟨by decide, by decide⟩)
theorem md_szI2 : SzL mdI2 := szL_of (by intro x hx; simp only [mdI2, List.mem_cons, List.not_mem_nil, or_false] at hx; subst hx; decide)
theorem md_tab2 (x y : Nat) (w : World) (hx : w.heap[x]? = some (.cells #[.string ⟨#[97]⟩, .string ⟨#[106]⟩, .int .i64 100, .int .i64 100, .int .i64 1000, .bool true, .string ⟨#[98]⟩, .string ⟨#[105]⟩, .int .i64 10, .int .i64 0, .int .i64 1000, .bool true] 48 (0, 0))) (hy : w.heap[y]? = some (.cells #[.string ⟨#[105]⟩, .int .i64 150] 50 (0, 0))) :
    Calls Try.prog 23 #[.agg #[.slice (some ⟨x, 0, none⟩) 2 2, .slice (some ⟨y, 0, none⟩) 1 1]] w fun e w' => e = .returned (.int .i64 8) ∧ Below w.heap.size w w' := by
  have h := table_any (some ⟨x, 0, none⟩) (some ⟨y, 0, none⟩) 2 1 mdA2 mdI2 w (by decide) (by decide) md_szA2 md_szI2 (atL_blk asc_len hx rfl) (atL_blk isc_len hy rfl)
  rw [show tabB mdA2 mdI2 = false from by kernel_rfl] at h
  exact h
theorem md_chk2 (x y : Nat) (w : World) (hx : w.heap[x]? = some (.cells #[.string ⟨#[97]⟩, .string ⟨#[106]⟩, .int .i64 100, .int .i64 100, .int .i64 1000, .bool true, .string ⟨#[98]⟩, .string ⟨#[105]⟩, .int .i64 10, .int .i64 0, .int .i64 1000, .bool true] 48 (0, 0))) (hy : w.heap[y]? = some (.cells #[.string ⟨#[105]⟩, .int .i64 150] 50 (0, 0))) :
    Calls Try.prog 25 #[.agg #[.slice (some ⟨x, 0, none⟩) 2 2, .slice (some ⟨y, 0, none⟩) 1 1], .slice none 0 0] w fun e w' => e = .returned (.int .i64 8) ∧ Below w.heap.size w w' := by
  have h := check_any (some ⟨x, 0, none⟩) (some ⟨y, 0, none⟩) none 2 1 0 mdA2 mdI2 [] w (by decide) (by decide) (by decide) md_szA2 md_szI2 (fun _ => Nat.zero_le _) (atL_blk asc_len hx rfl) (atL_blk isc_len hy rfl) (AtL.nil _ _ _ _)
  rw [show fitB mdA2 mdI2 [] = false from by kernel_rfl] at h
  exact h
def mdA3 : List As := [⟨⟨#[97]⟩, ⟨#[105]⟩, 100, 100, 1000, true⟩, ⟨⟨#[97]⟩, ⟨#[105]⟩, 10, 0, 1000, true⟩]
def mdI3 : List (ByteArray × Int) := [(⟨#[105]⟩, 150)]
theorem md_szA3 : SzA mdA3 := szA_of (by intro x hx; simp only [mdA3, List.mem_cons, List.not_mem_nil, or_false] at hx; rcases hx with rfl | rfl <;> exact ⟨by decide, by decide⟩)
theorem md_szI3 : SzL mdI3 := szL_of (by intro x hx; simp only [mdI3, List.mem_cons, List.not_mem_nil, or_false] at hx; subst hx; decide)
theorem md_tab3 (x y : Nat) (w : World) (hx : w.heap[x]? = some (.cells #[.string ⟨#[97]⟩, .string ⟨#[105]⟩, .int .i64 100, .int .i64 100, .int .i64 1000, .bool true, .string ⟨#[97]⟩, .string ⟨#[105]⟩, .int .i64 10, .int .i64 0, .int .i64 1000, .bool true] 48 (0, 0))) (hy : w.heap[y]? = some (.cells #[.string ⟨#[105]⟩, .int .i64 150] 50 (0, 0))) :
    Calls Try.prog 23 #[.agg #[.slice (some ⟨x, 0, none⟩) 2 2, .slice (some ⟨y, 0, none⟩) 1 1]] w fun e w' => e = .returned (.int .i64 8) ∧ Below w.heap.size w w' := by
  have h := table_any (some ⟨x, 0, none⟩) (some ⟨y, 0, none⟩) 2 1 mdA3 mdI3 w (by decide) (by decide) md_szA3 md_szI3 (atL_blk asc_len hx rfl) (atL_blk isc_len hy rfl)
  rw [show tabB mdA3 mdI3 = false from by kernel_rfl] at h
  exact h
theorem md_chk3 (x y : Nat) (w : World) (hx : w.heap[x]? = some (.cells #[.string ⟨#[97]⟩, .string ⟨#[105]⟩, .int .i64 100, .int .i64 100, .int .i64 1000, .bool true, .string ⟨#[97]⟩, .string ⟨#[105]⟩, .int .i64 10, .int .i64 0, .int .i64 1000, .bool true] 48 (0, 0))) (hy : w.heap[y]? = some (.cells #[.string ⟨#[105]⟩, .int .i64 150] 50 (0, 0))) :
    Calls Try.prog 25 #[.agg #[.slice (some ⟨x, 0, none⟩) 2 2, .slice (some ⟨y, 0, none⟩) 1 1], .slice none 0 0] w fun e w' => e = .returned (.int .i64 8) ∧ Below w.heap.size w w' := by
  have h := check_any (some ⟨x, 0, none⟩) (some ⟨y, 0, none⟩) none 2 1 0 mdA3 mdI3 [] w (by decide) (by decide) (by decide) md_szA3 md_szI3 (fun _ => Nat.zero_le _) (atL_blk asc_len hx rfl) (atL_blk isc_len hy rfl) (AtL.nil _ _ _ _)
  rw [show fitB mdA3 mdI3 [] = false from by kernel_rfl] at h
  exact h
def mdA4 : List As := [⟨⟨#[97]⟩, ⟨#[105]⟩, 100, 100, (-1), true⟩, ⟨⟨#[98]⟩, ⟨#[105]⟩, 10, 0, 1000, true⟩]
def mdI4 : List (ByteArray × Int) := [(⟨#[105]⟩, 150)]
theorem md_szA4 : SzA mdA4 := szA_of (by intro x hx; simp only [mdA4, List.mem_cons, List.not_mem_nil, or_false] at hx; rcases hx with rfl | rfl <;> exact ⟨by decide, by decide⟩)
theorem md_szI4 : SzL mdI4 := szL_of (by intro x hx; simp only [mdI4, List.mem_cons, List.not_mem_nil, or_false] at hx; subst hx; decide)
theorem md_tab4 (x y : Nat) (w : World) (hx : w.heap[x]? = some (.cells #[.string ⟨#[97]⟩, .string ⟨#[105]⟩, .int .i64 100, .int .i64 100, .int .i64 (-1), .bool true, .string ⟨#[98]⟩, .string ⟨#[105]⟩, .int .i64 10, .int .i64 0, .int .i64 1000, .bool true] 48 (0, 0))) (hy : w.heap[y]? = some (.cells #[.string ⟨#[105]⟩, .int .i64 150] 50 (0, 0))) :
    Calls Try.prog 23 #[.agg #[.slice (some ⟨x, 0, none⟩) 2 2, .slice (some ⟨y, 0, none⟩) 1 1]] w fun e w' => e = .returned (.int .i64 8) ∧ Below w.heap.size w w' := by
  have h := table_any (some ⟨x, 0, none⟩) (some ⟨y, 0, none⟩) 2 1 mdA4 mdI4 w (by decide) (by decide) md_szA4 md_szI4 (atL_blk asc_len hx rfl) (atL_blk isc_len hy rfl)
  rw [show tabB mdA4 mdI4 = false from by kernel_rfl] at h
  exact h
theorem md_chk4 (x y : Nat) (w : World) (hx : w.heap[x]? = some (.cells #[.string ⟨#[97]⟩, .string ⟨#[105]⟩, .int .i64 100, .int .i64 100, .int .i64 (-1), .bool true, .string ⟨#[98]⟩, .string ⟨#[105]⟩, .int .i64 10, .int .i64 0, .int .i64 1000, .bool true] 48 (0, 0))) (hy : w.heap[y]? = some (.cells #[.string ⟨#[105]⟩, .int .i64 150] 50 (0, 0))) :
    Calls Try.prog 25 #[.agg #[.slice (some ⟨x, 0, none⟩) 2 2, .slice (some ⟨y, 0, none⟩) 1 1], .slice none 0 0] w fun e w' => e = .returned (.int .i64 8) ∧ Below w.heap.size w w' := by
  have h := check_any (some ⟨x, 0, none⟩) (some ⟨y, 0, none⟩) none 2 1 0 mdA4 mdI4 [] w (by decide) (by decide) (by decide) md_szA4 md_szI4 (fun _ => Nat.zero_le _) (atL_blk asc_len hx rfl) (atL_blk isc_len hy rfl) (AtL.nil _ _ _ _)
  rw [show fitB mdA4 mdI4 [] = false from by kernel_rfl] at h
  exact h
def mdA5 : List As := [⟨⟨#[97]⟩, ⟨#[105]⟩, 100, 100, 1000, true⟩, ⟨⟨#[98]⟩, ⟨#[105]⟩, 10, 0, 1000, true⟩]
def mdI5 : List (ByteArray × Int) := [(⟨#[105]⟩, 1125899906842625)]
theorem md_szA5 : SzA mdA5 := szA_of (by intro x hx; simp only [mdA5, List.mem_cons, List.not_mem_nil, or_false] at hx; rcases hx with rfl | rfl <;> exact ⟨by decide, by decide⟩)
theorem md_szI5 : SzL mdI5 := szL_of (by intro x hx; simp only [mdI5, List.mem_cons, List.not_mem_nil, or_false] at hx; subst hx; decide)
theorem md_tab5 (x y : Nat) (w : World) (hx : w.heap[x]? = some (.cells #[.string ⟨#[97]⟩, .string ⟨#[105]⟩, .int .i64 100, .int .i64 100, .int .i64 1000, .bool true, .string ⟨#[98]⟩, .string ⟨#[105]⟩, .int .i64 10, .int .i64 0, .int .i64 1000, .bool true] 48 (0, 0))) (hy : w.heap[y]? = some (.cells #[.string ⟨#[105]⟩, .int .i64 1125899906842625] 50 (0, 0))) :
    Calls Try.prog 23 #[.agg #[.slice (some ⟨x, 0, none⟩) 2 2, .slice (some ⟨y, 0, none⟩) 1 1]] w fun e w' => e = .returned (.int .i64 8) ∧ Below w.heap.size w w' := by
  have h := table_any (some ⟨x, 0, none⟩) (some ⟨y, 0, none⟩) 2 1 mdA5 mdI5 w (by decide) (by decide) md_szA5 md_szI5 (atL_blk asc_len hx rfl) (atL_blk isc_len hy rfl)
  rw [show tabB mdA5 mdI5 = false from by kernel_rfl] at h
  exact h
theorem md_chk5 (x y : Nat) (w : World) (hx : w.heap[x]? = some (.cells #[.string ⟨#[97]⟩, .string ⟨#[105]⟩, .int .i64 100, .int .i64 100, .int .i64 1000, .bool true, .string ⟨#[98]⟩, .string ⟨#[105]⟩, .int .i64 10, .int .i64 0, .int .i64 1000, .bool true] 48 (0, 0))) (hy : w.heap[y]? = some (.cells #[.string ⟨#[105]⟩, .int .i64 1125899906842625] 50 (0, 0))) :
    Calls Try.prog 25 #[.agg #[.slice (some ⟨x, 0, none⟩) 2 2, .slice (some ⟨y, 0, none⟩) 1 1], .slice none 0 0] w fun e w' => e = .returned (.int .i64 8) ∧ Below w.heap.size w w' := by
  have h := check_any (some ⟨x, 0, none⟩) (some ⟨y, 0, none⟩) none 2 1 0 mdA5 mdI5 [] w (by decide) (by decide) (by decide) md_szA5 md_szI5 (fun _ => Nat.zero_le _) (atL_blk asc_len hx rfl) (atL_blk isc_len hy rfl) (AtL.nil _ _ _ _)
  rw [show fitB mdA5 mdI5 [] = false from by kernel_rfl] at h
  exact h
def mdA6 : List As := [⟨⟨#[97]⟩, ⟨#[105]⟩, 100, 100, 1000, true⟩, ⟨⟨#[98]⟩, ⟨#[105]⟩, 10, 0, 1000, true⟩]
def mdI6 : List (ByteArray × Int) := [(⟨#[]⟩, 150)]
theorem md_szA6 : SzA mdA6 := szA_of (by intro x hx; simp only [mdA6, List.mem_cons, List.not_mem_nil, or_false] at hx; rcases hx with rfl | rfl <;> exact ⟨by decide, by decide⟩)
theorem md_szI6 : SzL mdI6 := szL_of (by intro x hx; simp only [mdI6, List.mem_cons, List.not_mem_nil, or_false] at hx; subst hx; decide)
theorem md_tab6 (x y : Nat) (w : World) (hx : w.heap[x]? = some (.cells #[.string ⟨#[97]⟩, .string ⟨#[105]⟩, .int .i64 100, .int .i64 100, .int .i64 1000, .bool true, .string ⟨#[98]⟩, .string ⟨#[105]⟩, .int .i64 10, .int .i64 0, .int .i64 1000, .bool true] 48 (0, 0))) (hy : w.heap[y]? = some (.cells #[.string ⟨#[]⟩, .int .i64 150] 50 (0, 0))) :
    Calls Try.prog 23 #[.agg #[.slice (some ⟨x, 0, none⟩) 2 2, .slice (some ⟨y, 0, none⟩) 1 1]] w fun e w' => e = .returned (.int .i64 8) ∧ Below w.heap.size w w' := by
  have h := table_any (some ⟨x, 0, none⟩) (some ⟨y, 0, none⟩) 2 1 mdA6 mdI6 w (by decide) (by decide) md_szA6 md_szI6 (atL_blk asc_len hx rfl) (atL_blk isc_len hy rfl)
  rw [show tabB mdA6 mdI6 = false from by kernel_rfl] at h
  exact h
theorem md_chk6 (x y : Nat) (w : World) (hx : w.heap[x]? = some (.cells #[.string ⟨#[97]⟩, .string ⟨#[105]⟩, .int .i64 100, .int .i64 100, .int .i64 1000, .bool true, .string ⟨#[98]⟩, .string ⟨#[105]⟩, .int .i64 10, .int .i64 0, .int .i64 1000, .bool true] 48 (0, 0))) (hy : w.heap[y]? = some (.cells #[.string ⟨#[]⟩, .int .i64 150] 50 (0, 0))) :
    Calls Try.prog 25 #[.agg #[.slice (some ⟨x, 0, none⟩) 2 2, .slice (some ⟨y, 0, none⟩) 1 1], .slice none 0 0] w fun e w' => e = .returned (.int .i64 8) ∧ Below w.heap.size w w' := by
  have h := check_any (some ⟨x, 0, none⟩) (some ⟨y, 0, none⟩) none 2 1 0 mdA6 mdI6 [] w (by decide) (by decide) (by decide) md_szA6 md_szI6 (fun _ => Nat.zero_le _) (atL_blk asc_len hx rfl) (atL_blk isc_len hy rfl) (AtL.nil _ _ _ _)
  rw [show fitB mdA6 mdI6 [] = false from by kernel_rfl] at h
  exact h
def mdA7 : List As := [⟨⟨#[97]⟩, ⟨#[105]⟩, 100, 100, 1000, false⟩, ⟨⟨#[98]⟩, ⟨#[105]⟩, 10, 0, 1000, true⟩]
def mdI7 : List (ByteArray × Int) := [(⟨#[105]⟩, 150)]
theorem md_szA7 : SzA mdA7 := szA_of (by intro x hx; simp only [mdA7, List.mem_cons, List.not_mem_nil, or_false] at hx; rcases hx with rfl | rfl <;> exact ⟨by decide, by decide⟩)
theorem md_szI7 : SzL mdI7 := szL_of (by intro x hx; simp only [mdI7, List.mem_cons, List.not_mem_nil, or_false] at hx; subst hx; decide)
def exC : List (ByteArray × Int) := [(⟨#[99]⟩, 1)]
theorem exC_sz : SzL exC := szL_of (by intro x hx; simp only [exC, List.mem_cons, List.not_mem_nil, or_false] at hx; subst hx; decide)
theorem nm_value1 (x y z : Nat) (w : World) (hT : ExT w x y) (hH : w.heap[z]? = some (.cells #[.string ⟨#[99]⟩, .int .i64 1] 56 (0, 0))) :
    Calls Try.prog 18 #[.agg #[.slice (some ⟨x, 0, none⟩) 2 2, .slice (some ⟨y, 0, none⟩) 1 1], .slice (some ⟨z, 0, none⟩) 1 1] w fun e w' => e = .returned (.tuple #[.int .i64 0, .int .i64 8]) ∧ Below w.heap.size w w' :=
  pvalue_no (some ⟨x, 0, none⟩) (some ⟨y, 0, none⟩) (some ⟨z, 0, none⟩) 2 1 1 exA exI exC w (by decide) (by decide) (by decide) ex_szA ex_szI exC_sz hT.A hT.I (atL_blk isc_len hH rfl) (by kernel_rfl)
theorem nm_value2 (x y z : Nat) (w : World) (hT : ExT w x y) (hH : ExH w z 0 1) :
    Calls Try.prog 18 #[.agg #[.slice (some ⟨x, 0, none⟩) 2 2, .slice (some ⟨y, 0, none⟩) 1 1], .slice (some ⟨z, 0, none⟩) 2 2] w fun e w' => e = .returned (.tuple #[.int .i64 0, .int .i64 8]) ∧ Below w.heap.size w w' :=
  pvalue_no (some ⟨x, 0, none⟩) (some ⟨y, 0, none⟩) (some ⟨z, 0, none⟩) 2 1 2 exA exI (exL 0 1) w (by decide) (by decide) (show (2 : Nat) ≤ 1000 by omega) ex_szA ex_szI (ex_szL 0 1) hT.A hT.I hH.L (by kernel_rfl)
theorem nm_rel3 (x y z : Nat) (w : World) (hT : ExT w x y) (hH : ExH w z 1 9) :
    Calls Try.prog 20 #[.agg #[.slice (some ⟨x, 0, none⟩) 2 2, .slice (some ⟨y, 0, none⟩) 1 1], .slice (some ⟨z, 0, none⟩) 2 2, .string ⟨#[99]⟩, .int .i64 0] w fun e w' => e = .returned (.tuple #[.int .i64 0, .int .i64 6]) ∧ Below w.heap.size w w' :=
  release_any (some ⟨x, 0, none⟩) (some ⟨y, 0, none⟩) (some ⟨z, 0, none⟩) 2 1 2 exA exI (exL 1 9) ⟨#[99]⟩ 0 0 6 w (by decide) (by decide) (by show (2 : Nat) ≤ 1000; omega) ex_szA ex_szI (ex_szL 1 9) hT.A hT.I hH.L (.none ex_fit (by kernel_rfl) rfl rfl)
theorem nm_rel4 (x y z : Nat) (w : World) (hT : ExT w x y) (hH : ExH w z 1 9) :
    Calls Try.prog 20 #[.agg #[.slice (some ⟨x, 0, none⟩) 2 2, .slice (some ⟨y, 0, none⟩) 1 1], .slice (some ⟨z, 0, none⟩) 2 2, .string ⟨#[98]⟩, .int .i64 (-1)] w fun e w' => e = .returned (.tuple #[.int .i64 0, .int .i64 2]) ∧ Below w.heap.size w w' :=
  release_any (some ⟨x, 0, none⟩) (some ⟨y, 0, none⟩) (some ⟨z, 0, none⟩) 2 1 2 exA exI (exL 1 9) ⟨#[98]⟩ (-1) 0 2 w (by decide) (by decide) (by show (2 : Nat) ≤ 1000; omega) ex_szA ex_szI (ex_szL 1 9) hT.A hT.I hH.L (.arg ex_fit 1 ex_fn (by omega) rfl rfl)
theorem nm_rel5 (x y z : Nat) (w : World) (hT : ExT w x y) (hH : ExH w z 1 9) :
    Calls Try.prog 20 #[.agg #[.slice (some ⟨x, 0, none⟩) 2 2, .slice (some ⟨y, 0, none⟩) 1 1], .slice (some ⟨z, 0, none⟩) 2 2, .string ⟨#[98]⟩, .int .i64 151] w fun e w' => e = .returned (.tuple #[.int .i64 0, .int .i64 50]) ∧ Below w.heap.size w w' :=
  release_any (some ⟨x, 0, none⟩) (some ⟨y, 0, none⟩) (some ⟨z, 0, none⟩) 2 1 2 exA exI (exL 1 9) ⟨#[98]⟩ 151 0 50 w (by decide) (by decide) (by show (2 : Nat) ≤ 1000; omega) ex_szA ex_szI (ex_szL 1 9) hT.A hT.I hH.L (.cash ex_fit 1 ex_fn ⟨by omega, by omega⟩ (by rw [ex_val]; omega) rfl rfl)
theorem nm_rel6 (x y z : Nat) (w : World) (hT : ExT w x y) (hH : ExH w z 1 9) :
    Calls Try.prog 20 #[.agg #[.slice (some ⟨x, 0, none⟩) 2 2, .slice (some ⟨y, 0, none⟩) 1 1], .slice (some ⟨z, 0, none⟩) 2 2, .string ⟨#[97]⟩, .int .i64 0] w fun e w' => e = .returned (.tuple #[.int .i64 1, .int .i64 0]) ∧ Below w.heap.size w w' :=
  release_any (some ⟨x, 0, none⟩) (some ⟨y, 0, none⟩) (some ⟨z, 0, none⟩) 2 1 2 exA exI (exL 1 9) ⟨#[97]⟩ 0 1 0 w (by decide) (by decide) (by show (2 : Nat) ≤ 1000; omega) ex_szA ex_szI (ex_szL 1 9) hT.A hT.I hH.L (.ok ex_fit 0 (by kernel_rfl) ⟨by omega, by omega⟩ (by rw [ex_val]; omega) ⟨by omega, by show (1 : Int) ≤ 1; omega, by show (0 : Int) ≤ Uv exA exI (exL 1 9) 0 (1 - 1); rw [show Uv exA exI (exL 1 9) 0 (1 - 1) = 90 from by kernel_rfl]; omega, fun m h1 h2 => by change m ≤ 1 at h2; omega⟩ rfl)
theorem nm_pt7 (z : Nat) (w : World) (hH : ExH w z 1 1048576) :
    Calls Try.prog 30 #[.slice (some ⟨z, 0, none⟩) 2 2, .string ⟨#[98]⟩, .int .i64 1] w fun e w' => ∃ a' c', e = .returned (.tuple #[.slice a' 0 c', .int .i64 52]) ∧ Below w.heap.size w w' := by
  have h := put_any (some ⟨z, 0, none⟩) 2 (exL 1 1048576) ⟨#[98]⟩ 1 w (show (2 : Nat) ≤ 1000 by omega) (ex_szL _ _) (by decide) hH.L
  rw [show putE (exL 1 1048576) ⟨#[98]⟩ 1 = 52 from by kernel_rfl, show putV (exL 1 1048576) ⟨#[98]⟩ 1 = [] from by kernel_rfl] at h
  exact h.mono fun e w' ⟨a', c', h1, h2, h3⟩ => ⟨a', c', h1, h3⟩
theorem nm_pt8 (w : World) :
    Calls Try.prog 30 #[.slice none 0 0, .string ⟨#[]⟩, .int .i64 1] w fun e w' => ∃ a' c', e = .returned (.tuple #[.slice a' 0 c', .int .i64 2]) ∧ Below w.heap.size w w' := by
  have h := put_any none 0 [] ⟨#[]⟩ 1 w (by decide) (fun _ => Nat.zero_le _) (by decide) (AtL.nil _ _ _ _)
  rw [show putE [] ⟨#[]⟩ 1 = 2 from by kernel_rfl, show putV [] ⟨#[]⟩ 1 = [] from by kernel_rfl] at h
  exact h.mono fun e w' ⟨a', c', h1, h2, h3⟩ => ⟨a', c', h1, h3⟩
theorem nm_pt9 (z : Nat) (w : World) (hH : ExH w z 1 1) :
    Calls Try.prog 30 #[.slice (some ⟨z, 0, none⟩) 2 2, .string ⟨#[97, 97]⟩, .int .i64 5] w fun e w' => ∃ a' c', e = .returned (.tuple #[.slice a' 3 c', .int .i64 0]) ∧ AtL w' 2 isc a' [(⟨#[97]⟩, 1), (⟨#[97, 97]⟩, 5), (⟨#[98]⟩, 1)] ∧ Below w.heap.size w w' := by
  have h := put_any (some ⟨z, 0, none⟩) 2 (exL 1 1) ⟨#[97, 97]⟩ 5 w (show (2 : Nat) ≤ 1000 by omega) (ex_szL _ _) (by decide) hH.L
  rw [show putE (exL 1 1) ⟨#[97, 97]⟩ 5 = 0 from by kernel_rfl, show putV (exL 1 1) ⟨#[97, 97]⟩ 5 = [(⟨#[97]⟩, 1), (⟨#[97, 97]⟩, 5), (⟨#[98]⟩, 1)] from by kernel_rfl] at h
  exact h.mono fun e w' ⟨a', c', h1, h2, h3⟩ => ⟨a', c', h1, (h2.sl isc_len).1, h3⟩
theorem nm_pt10 (z : Nat) (w : World) (hH : ExH w z 1 1) :
    Calls Try.prog 29 #[.slice (some ⟨z, 0, none⟩) 2 2, .string ⟨#[99]⟩, .int .i64 1] w fun e w' => ∃ a' c', e = .returned (.tuple #[.slice a' 0 c', .int .i64 6]) ∧ Below w.heap.size w w' := by
  have h := take_any (some ⟨z, 0, none⟩) 2 (exL 1 1) ⟨#[99]⟩ 1 w (show (2 : Nat) ≤ 1000 by omega) (ex_szL _ _) (by decide) hH.L
  rw [show takE (exL 1 1) ⟨#[99]⟩ 1 = 6 from by kernel_rfl, show takV (exL 1 1) ⟨#[99]⟩ 1 = [] from by kernel_rfl] at h
  exact h.mono fun e w' ⟨a', c', h1, h2, h3⟩ => ⟨a', c', h1, h3⟩
theorem nm_pt11 (z : Nat) (w : World) (hH : ExH w z 1 1) :
    Calls Try.prog 29 #[.slice (some ⟨z, 0, none⟩) 2 2, .string ⟨#[98]⟩, .int .i64 2] w fun e w' => ∃ a' c', e = .returned (.tuple #[.slice a' 0 c', .int .i64 52]) ∧ Below w.heap.size w w' := by
  have h := take_any (some ⟨z, 0, none⟩) 2 (exL 1 1) ⟨#[98]⟩ 2 w (show (2 : Nat) ≤ 1000 by omega) (ex_szL _ _) (by decide) hH.L
  rw [show takE (exL 1 1) ⟨#[98]⟩ 2 = 52 from by kernel_rfl, show takV (exL 1 1) ⟨#[98]⟩ 2 = [] from by kernel_rfl] at h
  exact h.mono fun e w' ⟨a', c', h1, h2, h3⟩ => ⟨a', c', h1, h3⟩
theorem nm_pt12 (z : Nat) (w : World) (hH : ExH w z 1 1) :
    Calls Try.prog 29 #[.slice (some ⟨z, 0, none⟩) 2 2, .string ⟨#[97]⟩, .int .i64 1] w fun e w' => ∃ a' c', e = .returned (.tuple #[.slice a' 1 c', .int .i64 0]) ∧ AtL w' 2 isc a' [(⟨#[98]⟩, 1)] ∧ Below w.heap.size w w' := by
  have h := take_any (some ⟨z, 0, none⟩) 2 (exL 1 1) ⟨#[97]⟩ 1 w (show (2 : Nat) ≤ 1000 by omega) (ex_szL _ _) (by decide) hH.L
  rw [show takE (exL 1 1) ⟨#[97]⟩ 1 = 0 from by kernel_rfl, show takV (exL 1 1) ⟨#[97]⟩ 1 = [(⟨#[98]⟩, 1)] from by kernel_rfl] at h
  exact h.mono fun e w' ⟨a', c', h1, h2, h3⟩ => ⟨a', c', h1, (h2.sl isc_len).1, h3⟩
theorem nm_value13 (x y z : Nat) (w : World) (hx : w.heap[x]? = some (.cells #[.string ⟨#[97]⟩, .string ⟨#[105]⟩, .int .i64 100, .int .i64 100, .int .i64 1000, .bool false, .string ⟨#[98]⟩, .string ⟨#[105]⟩, .int .i64 10, .int .i64 0, .int .i64 1000, .bool true] 48 (0, 0))) (hy : w.heap[y]? = some (.cells #[.string ⟨#[105]⟩, .int .i64 150] 50 (0, 0))) (hH : ExH w z 5 3) :
    Calls Try.prog 18 #[.agg #[.slice (some ⟨x, 0, none⟩) 2 2, .slice (some ⟨y, 0, none⟩) 1 1], .slice (some ⟨z, 0, none⟩) 2 2] w fun e w' => e = .returned (.tuple #[.int .i64 30, .int .i64 0]) ∧ Below w.heap.size w w' := by
  have h := pvalue_yes (some ⟨x, 0, none⟩) (some ⟨y, 0, none⟩) (some ⟨z, 0, none⟩) 2 1 2 mdA7 mdI7 (exL 5 3) w (by decide) (by decide) (show (2 : Nat) ≤ 1000 by omega) md_szA7 md_szI7 (ex_szL 5 3) (atL_blk asc_len hx rfl) (atL_blk isc_len hy rfl) hH.L (by kernel_rfl)
  rw [show val (mkP mdA7 (exL 5 3)) (moF mdI7) = 30 from by kernel_rfl] at h
  exact h
set_option maxRecDepth 100000 in
set_option maxHeartbeats 8000000 in
theorem names_walk (w : World) : Calls Try.prog 9 #[] w fun e w' => e = .returned (.bool true) ∧ Below w.heap.size w w' := by
  go_enter Try.func9, Try.ntmps9
  go_wp2_with fail
  go_loopw [1, 2] (fun i _ wr => ∃ k : Nat, k ≤ 7 ∧ i = .int .i64 k ∧ Hid (Below w.heap.size w wr)) (fun i _ _ => 7 - (intOf i).toNat)
  case atStart => exact ⟨0, by omega, rfl, Below.refl _ _⟩
  case round =>
    obtain ⟨k, hk, rfl, HBW⟩ := hrel
    by_cases h7 : k < 7
    · obtain rfl | rfl | rfl | rfl | rfl | rfl | rfl : k = 0 ∨ k = 1 ∨ k = 2 ∨ k = 3 ∨ k = 4 ∨ k = 5 ∨ k = 6 := by omega
      · go_wp2_with fail
        refine (table_is _).mono ?_
        rintro e u0 ⟨x, y, rfl, hx9, hy9, g1, g2, hbX⟩
        have d0 := bt HBW.out hbX (Nat.le_refl _)
        have n1 : x ≠ u0.heap.size := by have := blk_lt g1; omega
        have n2 : y ≠ u0.heap.size := by have := blk_lt g2; omega
        have n3 : x ≠ y := fun e => by rw [e, g2] at g1; injection g1 with g1; injection g1 with _ g1; revert g1; decide
        have h1 := blk_past u0 (.cells #[.slice (some ⟨x, 0, none⟩) 2 2, .slice (some ⟨y, 0, none⟩) 1 1] 25) g1
        have h2 := blk_past u0 (.cells #[.slice (some ⟨x, 0, none⟩) 2 2, .slice (some ⟨y, 0, none⟩) 1 1] 25) g2
        have h3 := blk_new u0 (.cells #[.slice (some ⟨x, 0, none⟩) 2 2, .slice (some ⟨y, 0, none⟩) 1 1] 25)
        have q0 : (u0.alloc (.cells #[.slice (some ⟨x, 0, none⟩) 2 2, .slice (some ⟨y, 0, none⟩) 1 1] 25)).cell? ⟨x, 2, none⟩ = some (.int .i64 100) := cell_of h1 2 _ rfl
        have f0 : (u0.alloc (.cells #[.slice (some ⟨x, 0, none⟩) 2 2, .slice (some ⟨y, 0, none⟩) 1 1] 25)).frozen? ⟨x, 2, none⟩ = false := frozen_of h1 2
        have HX := Lib.hid (set_blk (o := 2) (ds := #[.string ⟨#[97]⟩, .string ⟨#[105]⟩, .int .i64 33554433, .int .i64 100, .int .i64 1000, .bool true, .string ⟨#[98]⟩, .string ⟨#[105]⟩, .int .i64 10, .int .i64 0, .int .i64 1000, .bool true]) h1 (.int .i64 33554433) rfl)
        have HY := Lib.hid (set_far h2 (g := x) (o := 2) (.int .i64 33554433) n3)
        have HT := Lib.hid (set_far (o := 2) h3 (.int .i64 33554433) n1)
        have HD := Lib.hid ((d0.alloc d0.size (.cells #[.slice (some ⟨x, 0, none⟩) 2 2, .slice (some ⟨y, 0, none⟩) 1 1] 25)).setCell (p := ⟨x, 2, none⟩) (show w.heap.size ≤ x by have := HBW.out.size; omega) (.int .i64 33554433))
        clear h1 h2 g1 g2 hbX
        have t0 := cell_of HT.out 0 _ rfl
        have t1 := cell_of HT.out 1 _ rfl
        go_wp2_with fail
        refine (md_tab0 x y _ HX.out HY.out).mono ?_
        rintro e u1 ⟨rfl, hbX⟩
        have HX1 := Lib.hid (blk_keep HX.out hbX)
        have HY1 := Lib.hid (blk_keep HY.out hbX)
        have HD1 := Lib.hid (bt HD.out hbX (Nat.le_refl _))
        have s0 : u1.cell? ⟨u0.heap.size, 0, none⟩ = some (.slice (some ⟨x, 0, none⟩) 2 2) := keep (cell_of HT.out 0 _ rfl) hbX
        have s1 : u1.cell? ⟨u0.heap.size, 1, none⟩ = some (.slice (some ⟨y, 0, none⟩) 1 1) := keep (cell_of HT.out 1 _ rfl) hbX
        clear HX HY HT HD t0 t1 h3 hbX q0 f0
        go_wp2_with fail
        refine (md_chk0 x y _ HX1.out HY1.out).mono ?_
        rintro e u2 ⟨rfl, hbX⟩
        have HD2 := Lib.hid (bt HD1.out hbX (Nat.le_refl _))
        clear HX1 HY1 HD1 s0 s1 hbX n1 n2 n3
        go_wp2
        go_roundw
        case rel => exact ⟨1, by omega, rfl, HD2⟩
        case measure => simp [intOf]
      · go_wp2_with fail
        refine (table_is _).mono ?_
        rintro e u0 ⟨x, y, rfl, hx9, hy9, g1, g2, hbX⟩
        have d0 := bt HBW.out hbX (Nat.le_refl _)
        have n1 : x ≠ u0.heap.size := by have := blk_lt g1; omega
        have n2 : y ≠ u0.heap.size := by have := blk_lt g2; omega
        have n3 : x ≠ y := fun e => by rw [e, g2] at g1; injection g1 with g1; injection g1 with _ g1; revert g1; decide
        have h1 := blk_past u0 (.cells #[.slice (some ⟨x, 0, none⟩) 2 2, .slice (some ⟨y, 0, none⟩) 1 1] 25) g1
        have h2 := blk_past u0 (.cells #[.slice (some ⟨x, 0, none⟩) 2 2, .slice (some ⟨y, 0, none⟩) 1 1] 25) g2
        have h3 := blk_new u0 (.cells #[.slice (some ⟨x, 0, none⟩) 2 2, .slice (some ⟨y, 0, none⟩) 1 1] 25)
        have q0 : (u0.alloc (.cells #[.slice (some ⟨x, 0, none⟩) 2 2, .slice (some ⟨y, 0, none⟩) 1 1] 25)).cell? ⟨x, 3, none⟩ = some (.int .i64 100) := cell_of h1 3 _ rfl
        have f0 : (u0.alloc (.cells #[.slice (some ⟨x, 0, none⟩) 2 2, .slice (some ⟨y, 0, none⟩) 1 1] 25)).frozen? ⟨x, 3, none⟩ = false := frozen_of h1 3
        have HX := Lib.hid (set_blk (o := 3) (ds := #[.string ⟨#[97]⟩, .string ⟨#[105]⟩, .int .i64 100, .int .i64 1001, .int .i64 1000, .bool true, .string ⟨#[98]⟩, .string ⟨#[105]⟩, .int .i64 10, .int .i64 0, .int .i64 1000, .bool true]) h1 (.int .i64 1001) rfl)
        have HY := Lib.hid (set_far h2 (g := x) (o := 3) (.int .i64 1001) n3)
        have HT := Lib.hid (set_far (o := 3) h3 (.int .i64 1001) n1)
        have HD := Lib.hid ((d0.alloc d0.size (.cells #[.slice (some ⟨x, 0, none⟩) 2 2, .slice (some ⟨y, 0, none⟩) 1 1] 25)).setCell (p := ⟨x, 3, none⟩) (show w.heap.size ≤ x by have := HBW.out.size; omega) (.int .i64 1001))
        clear h1 h2 g1 g2 hbX
        have t0 := cell_of HT.out 0 _ rfl
        have t1 := cell_of HT.out 1 _ rfl
        go_wp2_with fail
        refine (md_tab1 x y _ HX.out HY.out).mono ?_
        rintro e u1 ⟨rfl, hbX⟩
        have HX1 := Lib.hid (blk_keep HX.out hbX)
        have HY1 := Lib.hid (blk_keep HY.out hbX)
        have HD1 := Lib.hid (bt HD.out hbX (Nat.le_refl _))
        have s0 : u1.cell? ⟨u0.heap.size, 0, none⟩ = some (.slice (some ⟨x, 0, none⟩) 2 2) := keep (cell_of HT.out 0 _ rfl) hbX
        have s1 : u1.cell? ⟨u0.heap.size, 1, none⟩ = some (.slice (some ⟨y, 0, none⟩) 1 1) := keep (cell_of HT.out 1 _ rfl) hbX
        clear HX HY HT HD t0 t1 h3 hbX q0 f0
        go_wp2_with fail
        refine (md_chk1 x y _ HX1.out HY1.out).mono ?_
        rintro e u2 ⟨rfl, hbX⟩
        have HD2 := Lib.hid (bt HD1.out hbX (Nat.le_refl _))
        clear HX1 HY1 HD1 s0 s1 hbX n1 n2 n3
        go_wp2
        go_roundw
        case rel => exact ⟨2, by omega, rfl, HD2⟩
        case measure => simp [intOf]
      · go_wp2_with fail
        refine (table_is _).mono ?_
        rintro e u0 ⟨x, y, rfl, hx9, hy9, g1, g2, hbX⟩
        have d0 := bt HBW.out hbX (Nat.le_refl _)
        have n1 : x ≠ u0.heap.size := by have := blk_lt g1; omega
        have n2 : y ≠ u0.heap.size := by have := blk_lt g2; omega
        have n3 : x ≠ y := fun e => by rw [e, g2] at g1; injection g1 with g1; injection g1 with _ g1; revert g1; decide
        have h1 := blk_past u0 (.cells #[.slice (some ⟨x, 0, none⟩) 2 2, .slice (some ⟨y, 0, none⟩) 1 1] 25) g1
        have h2 := blk_past u0 (.cells #[.slice (some ⟨x, 0, none⟩) 2 2, .slice (some ⟨y, 0, none⟩) 1 1] 25) g2
        have h3 := blk_new u0 (.cells #[.slice (some ⟨x, 0, none⟩) 2 2, .slice (some ⟨y, 0, none⟩) 1 1] 25)
        have q0 : (u0.alloc (.cells #[.slice (some ⟨x, 0, none⟩) 2 2, .slice (some ⟨y, 0, none⟩) 1 1] 25)).cell? ⟨x, 1, none⟩ = some (.string ⟨#[105]⟩) := cell_of h1 1 _ rfl
        have f0 : (u0.alloc (.cells #[.slice (some ⟨x, 0, none⟩) 2 2, .slice (some ⟨y, 0, none⟩) 1 1] 25)).frozen? ⟨x, 1, none⟩ = false := frozen_of h1 1
        have HX := Lib.hid (set_blk (o := 1) (ds := #[.string ⟨#[97]⟩, .string ⟨#[106]⟩, .int .i64 100, .int .i64 100, .int .i64 1000, .bool true, .string ⟨#[98]⟩, .string ⟨#[105]⟩, .int .i64 10, .int .i64 0, .int .i64 1000, .bool true]) h1 (.string ⟨#[106]⟩) rfl)
        have HY := Lib.hid (set_far h2 (g := x) (o := 1) (.string ⟨#[106]⟩) n3)
        have HT := Lib.hid (set_far (o := 1) h3 (.string ⟨#[106]⟩) n1)
        have HD := Lib.hid ((d0.alloc d0.size (.cells #[.slice (some ⟨x, 0, none⟩) 2 2, .slice (some ⟨y, 0, none⟩) 1 1] 25)).setCell (p := ⟨x, 1, none⟩) (show w.heap.size ≤ x by have := HBW.out.size; omega) (.string ⟨#[106]⟩))
        clear h1 h2 g1 g2 hbX
        have t0 := cell_of HT.out 0 _ rfl
        have t1 := cell_of HT.out 1 _ rfl
        go_wp2_with fail
        refine (md_tab2 x y _ HX.out HY.out).mono ?_
        rintro e u1 ⟨rfl, hbX⟩
        have HX1 := Lib.hid (blk_keep HX.out hbX)
        have HY1 := Lib.hid (blk_keep HY.out hbX)
        have HD1 := Lib.hid (bt HD.out hbX (Nat.le_refl _))
        have s0 : u1.cell? ⟨u0.heap.size, 0, none⟩ = some (.slice (some ⟨x, 0, none⟩) 2 2) := keep (cell_of HT.out 0 _ rfl) hbX
        have s1 : u1.cell? ⟨u0.heap.size, 1, none⟩ = some (.slice (some ⟨y, 0, none⟩) 1 1) := keep (cell_of HT.out 1 _ rfl) hbX
        clear HX HY HT HD t0 t1 h3 hbX q0 f0
        go_wp2_with fail
        refine (md_chk2 x y _ HX1.out HY1.out).mono ?_
        rintro e u2 ⟨rfl, hbX⟩
        have HD2 := Lib.hid (bt HD1.out hbX (Nat.le_refl _))
        clear HX1 HY1 HD1 s0 s1 hbX n1 n2 n3
        go_wp2
        go_roundw
        case rel => exact ⟨3, by omega, rfl, HD2⟩
        case measure => simp [intOf]
      · go_wp2_with fail
        refine (table_is _).mono ?_
        rintro e u0 ⟨x, y, rfl, hx9, hy9, g1, g2, hbX⟩
        have d0 := bt HBW.out hbX (Nat.le_refl _)
        have n1 : x ≠ u0.heap.size := by have := blk_lt g1; omega
        have n2 : y ≠ u0.heap.size := by have := blk_lt g2; omega
        have n3 : x ≠ y := fun e => by rw [e, g2] at g1; injection g1 with g1; injection g1 with _ g1; revert g1; decide
        have h1 := blk_past u0 (.cells #[.slice (some ⟨x, 0, none⟩) 2 2, .slice (some ⟨y, 0, none⟩) 1 1] 25) g1
        have h2 := blk_past u0 (.cells #[.slice (some ⟨x, 0, none⟩) 2 2, .slice (some ⟨y, 0, none⟩) 1 1] 25) g2
        have h3 := blk_new u0 (.cells #[.slice (some ⟨x, 0, none⟩) 2 2, .slice (some ⟨y, 0, none⟩) 1 1] 25)
        have q0 : (u0.alloc (.cells #[.slice (some ⟨x, 0, none⟩) 2 2, .slice (some ⟨y, 0, none⟩) 1 1] 25)).cell? ⟨x, 6, none⟩ = some (.string ⟨#[98]⟩) := cell_of h1 6 _ rfl
        have f0 : (u0.alloc (.cells #[.slice (some ⟨x, 0, none⟩) 2 2, .slice (some ⟨y, 0, none⟩) 1 1] 25)).frozen? ⟨x, 6, none⟩ = false := frozen_of h1 6
        have HX := Lib.hid (set_blk (o := 6) (ds := #[.string ⟨#[97]⟩, .string ⟨#[105]⟩, .int .i64 100, .int .i64 100, .int .i64 1000, .bool true, .string ⟨#[97]⟩, .string ⟨#[105]⟩, .int .i64 10, .int .i64 0, .int .i64 1000, .bool true]) h1 (.string ⟨#[97]⟩) rfl)
        have HY := Lib.hid (set_far h2 (g := x) (o := 6) (.string ⟨#[97]⟩) n3)
        have HT := Lib.hid (set_far (o := 6) h3 (.string ⟨#[97]⟩) n1)
        have HD := Lib.hid ((d0.alloc d0.size (.cells #[.slice (some ⟨x, 0, none⟩) 2 2, .slice (some ⟨y, 0, none⟩) 1 1] 25)).setCell (p := ⟨x, 6, none⟩) (show w.heap.size ≤ x by have := HBW.out.size; omega) (.string ⟨#[97]⟩))
        clear h1 h2 g1 g2 hbX
        have t0 := cell_of HT.out 0 _ rfl
        have t1 := cell_of HT.out 1 _ rfl
        go_wp2_with fail
        refine (md_tab3 x y _ HX.out HY.out).mono ?_
        rintro e u1 ⟨rfl, hbX⟩
        have HX1 := Lib.hid (blk_keep HX.out hbX)
        have HY1 := Lib.hid (blk_keep HY.out hbX)
        have HD1 := Lib.hid (bt HD.out hbX (Nat.le_refl _))
        have s0 : u1.cell? ⟨u0.heap.size, 0, none⟩ = some (.slice (some ⟨x, 0, none⟩) 2 2) := keep (cell_of HT.out 0 _ rfl) hbX
        have s1 : u1.cell? ⟨u0.heap.size, 1, none⟩ = some (.slice (some ⟨y, 0, none⟩) 1 1) := keep (cell_of HT.out 1 _ rfl) hbX
        clear HX HY HT HD t0 t1 h3 hbX q0 f0
        go_wp2_with fail
        refine (md_chk3 x y _ HX1.out HY1.out).mono ?_
        rintro e u2 ⟨rfl, hbX⟩
        have HD2 := Lib.hid (bt HD1.out hbX (Nat.le_refl _))
        clear HX1 HY1 HD1 s0 s1 hbX n1 n2 n3
        go_wp2
        go_roundw
        case rel => exact ⟨4, by omega, rfl, HD2⟩
        case measure => simp [intOf]
      · go_wp2_with fail
        refine (table_is _).mono ?_
        rintro e u0 ⟨x, y, rfl, hx9, hy9, g1, g2, hbX⟩
        have d0 := bt HBW.out hbX (Nat.le_refl _)
        have n1 : x ≠ u0.heap.size := by have := blk_lt g1; omega
        have n2 : y ≠ u0.heap.size := by have := blk_lt g2; omega
        have n3 : x ≠ y := fun e => by rw [e, g2] at g1; injection g1 with g1; injection g1 with _ g1; revert g1; decide
        have h1 := blk_past u0 (.cells #[.slice (some ⟨x, 0, none⟩) 2 2, .slice (some ⟨y, 0, none⟩) 1 1] 25) g1
        have h2 := blk_past u0 (.cells #[.slice (some ⟨x, 0, none⟩) 2 2, .slice (some ⟨y, 0, none⟩) 1 1] 25) g2
        have h3 := blk_new u0 (.cells #[.slice (some ⟨x, 0, none⟩) 2 2, .slice (some ⟨y, 0, none⟩) 1 1] 25)
        have q0 : (u0.alloc (.cells #[.slice (some ⟨x, 0, none⟩) 2 2, .slice (some ⟨y, 0, none⟩) 1 1] 25)).cell? ⟨x, 4, none⟩ = some (.int .i64 1000) := cell_of h1 4 _ rfl
        have f0 : (u0.alloc (.cells #[.slice (some ⟨x, 0, none⟩) 2 2, .slice (some ⟨y, 0, none⟩) 1 1] 25)).frozen? ⟨x, 4, none⟩ = false := frozen_of h1 4
        have HX := Lib.hid (set_blk (o := 4) (ds := #[.string ⟨#[97]⟩, .string ⟨#[105]⟩, .int .i64 100, .int .i64 100, .int .i64 (-1), .bool true, .string ⟨#[98]⟩, .string ⟨#[105]⟩, .int .i64 10, .int .i64 0, .int .i64 1000, .bool true]) h1 (.int .i64 (-1)) rfl)
        have HY := Lib.hid (set_far h2 (g := x) (o := 4) (.int .i64 (-1)) n3)
        have HT := Lib.hid (set_far (o := 4) h3 (.int .i64 (-1)) n1)
        have HD := Lib.hid ((d0.alloc d0.size (.cells #[.slice (some ⟨x, 0, none⟩) 2 2, .slice (some ⟨y, 0, none⟩) 1 1] 25)).setCell (p := ⟨x, 4, none⟩) (show w.heap.size ≤ x by have := HBW.out.size; omega) (.int .i64 (-1)))
        clear h1 h2 g1 g2 hbX
        have t0 := cell_of HT.out 0 _ rfl
        have t1 := cell_of HT.out 1 _ rfl
        go_wp2_with fail
        refine (md_tab4 x y _ HX.out HY.out).mono ?_
        rintro e u1 ⟨rfl, hbX⟩
        have HX1 := Lib.hid (blk_keep HX.out hbX)
        have HY1 := Lib.hid (blk_keep HY.out hbX)
        have HD1 := Lib.hid (bt HD.out hbX (Nat.le_refl _))
        have s0 : u1.cell? ⟨u0.heap.size, 0, none⟩ = some (.slice (some ⟨x, 0, none⟩) 2 2) := keep (cell_of HT.out 0 _ rfl) hbX
        have s1 : u1.cell? ⟨u0.heap.size, 1, none⟩ = some (.slice (some ⟨y, 0, none⟩) 1 1) := keep (cell_of HT.out 1 _ rfl) hbX
        clear HX HY HT HD t0 t1 h3 hbX q0 f0
        go_wp2_with fail
        refine (md_chk4 x y _ HX1.out HY1.out).mono ?_
        rintro e u2 ⟨rfl, hbX⟩
        have HD2 := Lib.hid (bt HD1.out hbX (Nat.le_refl _))
        clear HX1 HY1 HD1 s0 s1 hbX n1 n2 n3
        go_wp2
        go_roundw
        case rel => exact ⟨5, by omega, rfl, HD2⟩
        case measure => simp [intOf]
      · go_wp2_with fail
        refine (table_is _).mono ?_
        rintro e u0 ⟨x, y, rfl, hx9, hy9, g1, g2, hbX⟩
        have d0 := bt HBW.out hbX (Nat.le_refl _)
        have n1 : x ≠ u0.heap.size := by have := blk_lt g1; omega
        have n2 : y ≠ u0.heap.size := by have := blk_lt g2; omega
        have n3 : x ≠ y := fun e => by rw [e, g2] at g1; injection g1 with g1; injection g1 with _ g1; revert g1; decide
        have h1 := blk_past u0 (.cells #[.slice (some ⟨x, 0, none⟩) 2 2, .slice (some ⟨y, 0, none⟩) 1 1] 25) g1
        have h2 := blk_past u0 (.cells #[.slice (some ⟨x, 0, none⟩) 2 2, .slice (some ⟨y, 0, none⟩) 1 1] 25) g2
        have h3 := blk_new u0 (.cells #[.slice (some ⟨x, 0, none⟩) 2 2, .slice (some ⟨y, 0, none⟩) 1 1] 25)
        have q0 : (u0.alloc (.cells #[.slice (some ⟨x, 0, none⟩) 2 2, .slice (some ⟨y, 0, none⟩) 1 1] 25)).cell? ⟨y, 1, none⟩ = some (.int .i64 150) := cell_of h2 1 _ rfl
        have f0 : (u0.alloc (.cells #[.slice (some ⟨x, 0, none⟩) 2 2, .slice (some ⟨y, 0, none⟩) 1 1] 25)).frozen? ⟨y, 1, none⟩ = false := frozen_of h2 1
        have HX := Lib.hid (set_far h1 (g := y) (o := 1) (.int .i64 1125899906842625) (fun e => n3 e.symm))
        have HY := Lib.hid (set_blk (o := 1) (ds := #[.string ⟨#[105]⟩, .int .i64 1125899906842625]) h2 (.int .i64 1125899906842625) rfl)
        have HT := Lib.hid (set_far (o := 1) h3 (.int .i64 1125899906842625) n2)
        have HD := Lib.hid ((d0.alloc d0.size (.cells #[.slice (some ⟨x, 0, none⟩) 2 2, .slice (some ⟨y, 0, none⟩) 1 1] 25)).setCell (p := ⟨y, 1, none⟩) (show w.heap.size ≤ y by have := HBW.out.size; omega) (.int .i64 1125899906842625))
        clear h1 h2 g1 g2 hbX
        have t0 := cell_of HT.out 0 _ rfl
        have t1 := cell_of HT.out 1 _ rfl
        go_wp2_with fail
        refine (md_tab5 x y _ HX.out HY.out).mono ?_
        rintro e u1 ⟨rfl, hbX⟩
        have HX1 := Lib.hid (blk_keep HX.out hbX)
        have HY1 := Lib.hid (blk_keep HY.out hbX)
        have HD1 := Lib.hid (bt HD.out hbX (Nat.le_refl _))
        have s0 : u1.cell? ⟨u0.heap.size, 0, none⟩ = some (.slice (some ⟨x, 0, none⟩) 2 2) := keep (cell_of HT.out 0 _ rfl) hbX
        have s1 : u1.cell? ⟨u0.heap.size, 1, none⟩ = some (.slice (some ⟨y, 0, none⟩) 1 1) := keep (cell_of HT.out 1 _ rfl) hbX
        clear HX HY HT HD t0 t1 h3 hbX q0 f0
        go_wp2_with fail
        refine (md_chk5 x y _ HX1.out HY1.out).mono ?_
        rintro e u2 ⟨rfl, hbX⟩
        have HD2 := Lib.hid (bt HD1.out hbX (Nat.le_refl _))
        clear HX1 HY1 HD1 s0 s1 hbX n1 n2 n3
        go_wp2
        go_roundw
        case rel => exact ⟨6, by omega, rfl, HD2⟩
        case measure => simp [intOf]
      · go_wp2_with fail
        refine (table_is _).mono ?_
        rintro e u0 ⟨x, y, rfl, hx9, hy9, g1, g2, hbX⟩
        have d0 := bt HBW.out hbX (Nat.le_refl _)
        have n1 : x ≠ u0.heap.size := by have := blk_lt g1; omega
        have n2 : y ≠ u0.heap.size := by have := blk_lt g2; omega
        have n3 : x ≠ y := fun e => by rw [e, g2] at g1; injection g1 with g1; injection g1 with _ g1; revert g1; decide
        have h1 := blk_past u0 (.cells #[.slice (some ⟨x, 0, none⟩) 2 2, .slice (some ⟨y, 0, none⟩) 1 1] 25) g1
        have h2 := blk_past u0 (.cells #[.slice (some ⟨x, 0, none⟩) 2 2, .slice (some ⟨y, 0, none⟩) 1 1] 25) g2
        have h3 := blk_new u0 (.cells #[.slice (some ⟨x, 0, none⟩) 2 2, .slice (some ⟨y, 0, none⟩) 1 1] 25)
        have q0 : (u0.alloc (.cells #[.slice (some ⟨x, 0, none⟩) 2 2, .slice (some ⟨y, 0, none⟩) 1 1] 25)).cell? ⟨y, 0, none⟩ = some (.string ⟨#[105]⟩) := cell_of h2 0 _ rfl
        have f0 : (u0.alloc (.cells #[.slice (some ⟨x, 0, none⟩) 2 2, .slice (some ⟨y, 0, none⟩) 1 1] 25)).frozen? ⟨y, 0, none⟩ = false := frozen_of h2 0
        have HX := Lib.hid (set_far h1 (g := y) (o := 0) (.string ⟨#[]⟩) (fun e => n3 e.symm))
        have HY := Lib.hid (set_blk (o := 0) (ds := #[.string ⟨#[]⟩, .int .i64 150]) h2 (.string ⟨#[]⟩) rfl)
        have HT := Lib.hid (set_far (o := 0) h3 (.string ⟨#[]⟩) n2)
        have HD := Lib.hid ((d0.alloc d0.size (.cells #[.slice (some ⟨x, 0, none⟩) 2 2, .slice (some ⟨y, 0, none⟩) 1 1] 25)).setCell (p := ⟨y, 0, none⟩) (show w.heap.size ≤ y by have := HBW.out.size; omega) (.string ⟨#[]⟩))
        clear h1 h2 g1 g2 hbX
        have t0 := cell_of HT.out 0 _ rfl
        have t1 := cell_of HT.out 1 _ rfl
        go_wp2_with fail
        refine (md_tab6 x y _ HX.out HY.out).mono ?_
        rintro e u1 ⟨rfl, hbX⟩
        have HX1 := Lib.hid (blk_keep HX.out hbX)
        have HY1 := Lib.hid (blk_keep HY.out hbX)
        have HD1 := Lib.hid (bt HD.out hbX (Nat.le_refl _))
        have s0 : u1.cell? ⟨u0.heap.size, 0, none⟩ = some (.slice (some ⟨x, 0, none⟩) 2 2) := keep (cell_of HT.out 0 _ rfl) hbX
        have s1 : u1.cell? ⟨u0.heap.size, 1, none⟩ = some (.slice (some ⟨y, 0, none⟩) 1 1) := keep (cell_of HT.out 1 _ rfl) hbX
        clear HX HY HT HD t0 t1 h3 hbX q0 f0
        go_wp2_with fail
        refine (md_chk6 x y _ HX1.out HY1.out).mono ?_
        rintro e u2 ⟨rfl, hbX⟩
        have HD2 := Lib.hid (bt HD1.out hbX (Nat.le_refl _))
        clear HX1 HY1 HD1 s0 s1 hbX n1 n2 n3
        go_wp2
        go_roundw
        case rel => exact ⟨7, by omega, rfl, HD2⟩
        case measure => simp [intOf]
    · obtain rfl : k = 7 := by omega
      clear h7 hk
      go_wp2_with fail
      refine (table_is _).mono ?_
      rintro e u1 ⟨x1, y1, rfl, _, _, g1, g2, hbX⟩
      have d1 := Lib.hid (bt HBW.out hbX (Nat.le_refl _))
      have HT1 := Lib.hid (show ExT u1 x1 y1 from ⟨g1, g2⟩)
      clear g1 g2 hbX HBW
      have hz := blk_new u1 (.cells #[.string ⟨#[99]⟩, .int .i64 1] 56)
      have e1 := Lib.hid (d1.out.alloc d1.out.size (.cells #[.string ⟨#[99]⟩, .int .i64 1] 56))
      have HU1 := Lib.hid (HT1.out.keep ((Below.refl _ _).alloc (Nat.le_refl _) (.cells #[.string ⟨#[99]⟩, .int .i64 1] 56)))
      have HZ := Lib.hid hz
      clear hz d1 HT1
      go_wp2_with fail
      refine (nm_value1 x1 y1 _ _ HU1.out HZ.out).mono ?_
      rintro e t1 ⟨rfl, hbX⟩
      have c1 := Lib.hid (bt e1.out hbX (Nat.le_refl _))
      clear hbX e1 HU1 HZ
      go_wp2_with fail
      refine (table_is _).mono ?_
      rintro e u2 ⟨x2, y2, rfl, _, _, g1, g2, hbX⟩
      have d2 := Lib.hid (bt c1.out hbX (Nat.le_refl _))
      have HT2 := Lib.hid (show ExT u2 x2 y2 from ⟨g1, g2⟩)
      clear g1 g2 hbX c1
      go_wp2_with fail
      refine (held_is 0 1 _).mono ?_
      rintro e v2 ⟨z2, rfl, _, g1, hbX⟩
      have e2 := Lib.hid (bt d2.out hbX (Nat.le_refl _))
      have HU2 := Lib.hid (HT2.out.keep hbX)
      have HH2 := Lib.hid (show ExH v2 z2 0 1 from g1)
      clear g1 hbX d2 HT2
      go_wp2_with fail
      refine (nm_value2 x2 y2 z2 _ HU2.out HH2.out).mono ?_
      rintro e t2 ⟨rfl, hbX⟩
      have c2 := Lib.hid (bt e2.out hbX (Nat.le_refl _))
      clear hbX e2 HU2 HH2
      go_wp2_with fail
      refine (table_is _).mono ?_
      rintro e u3 ⟨x3, y3, rfl, _, _, g1, g2, hbX⟩
      have d3 := Lib.hid (bt c2.out hbX (Nat.le_refl _))
      have HT3 := Lib.hid (show ExT u3 x3 y3 from ⟨g1, g2⟩)
      clear g1 g2 hbX c2
      go_wp2_with fail
      refine (held_is 1 9 _).mono ?_
      rintro e v3 ⟨z3, rfl, _, g1, hbX⟩
      have e3 := Lib.hid (bt d3.out hbX (Nat.le_refl _))
      have HU3 := Lib.hid (HT3.out.keep hbX)
      have HH3 := Lib.hid (show ExH v3 z3 1 9 from g1)
      clear g1 hbX d3 HT3
      go_wp2_with fail
      refine (nm_rel3 x3 y3 z3 _ HU3.out HH3.out).mono ?_
      rintro e t3 ⟨rfl, hbX⟩
      have c3 := Lib.hid (bt e3.out hbX (Nat.le_refl _))
      clear hbX e3 HU3 HH3
      go_wp2_with fail
      refine (table_is _).mono ?_
      rintro e u4 ⟨x4, y4, rfl, _, _, g1, g2, hbX⟩
      have d4 := Lib.hid (bt c3.out hbX (Nat.le_refl _))
      have HT4 := Lib.hid (show ExT u4 x4 y4 from ⟨g1, g2⟩)
      clear g1 g2 hbX c3
      go_wp2_with fail
      refine (held_is 1 9 _).mono ?_
      rintro e v4 ⟨z4, rfl, _, g1, hbX⟩
      have e4 := Lib.hid (bt d4.out hbX (Nat.le_refl _))
      have HU4 := Lib.hid (HT4.out.keep hbX)
      have HH4 := Lib.hid (show ExH v4 z4 1 9 from g1)
      clear g1 hbX d4 HT4
      go_wp2_with fail
      refine (nm_rel4 x4 y4 z4 _ HU4.out HH4.out).mono ?_
      rintro e t4 ⟨rfl, hbX⟩
      have c4 := Lib.hid (bt e4.out hbX (Nat.le_refl _))
      clear hbX e4 HU4 HH4
      go_wp2_with fail
      refine (table_is _).mono ?_
      rintro e u5 ⟨x5, y5, rfl, _, _, g1, g2, hbX⟩
      have d5 := Lib.hid (bt c4.out hbX (Nat.le_refl _))
      have HT5 := Lib.hid (show ExT u5 x5 y5 from ⟨g1, g2⟩)
      clear g1 g2 hbX c4
      go_wp2_with fail
      refine (held_is 1 9 _).mono ?_
      rintro e v5 ⟨z5, rfl, _, g1, hbX⟩
      have e5 := Lib.hid (bt d5.out hbX (Nat.le_refl _))
      have HU5 := Lib.hid (HT5.out.keep hbX)
      have HH5 := Lib.hid (show ExH v5 z5 1 9 from g1)
      clear g1 hbX d5 HT5
      go_wp2_with fail
      refine (nm_rel5 x5 y5 z5 _ HU5.out HH5.out).mono ?_
      rintro e t5 ⟨rfl, hbX⟩
      have c5 := Lib.hid (bt e5.out hbX (Nat.le_refl _))
      clear hbX e5 HU5 HH5
      go_wp2_with fail
      refine (table_is _).mono ?_
      rintro e u6 ⟨x6, y6, rfl, _, _, g1, g2, hbX⟩
      have d6 := Lib.hid (bt c5.out hbX (Nat.le_refl _))
      have HT6 := Lib.hid (show ExT u6 x6 y6 from ⟨g1, g2⟩)
      clear g1 g2 hbX c5
      go_wp2_with fail
      refine (held_is 1 9 _).mono ?_
      rintro e v6 ⟨z6, rfl, _, g1, hbX⟩
      have e6 := Lib.hid (bt d6.out hbX (Nat.le_refl _))
      have HU6 := Lib.hid (HT6.out.keep hbX)
      have HH6 := Lib.hid (show ExH v6 z6 1 9 from g1)
      clear g1 hbX d6 HT6
      go_wp2_with fail
      refine (nm_rel6 x6 y6 z6 _ HU6.out HH6.out).mono ?_
      rintro e t6 ⟨rfl, hbX⟩
      have c6 := Lib.hid (bt e6.out hbX (Nat.le_refl _))
      clear hbX e6 HU6 HH6
      go_wp2_with fail
      refine (held_is 1 1048576 _).mono ?_
      rintro e v7 ⟨z7, rfl, _, g1, hbX⟩
      have e7 := Lib.hid (bt c6.out hbX (Nat.le_refl _))
      have HH7 := Lib.hid (show ExH v7 z7 1 1048576 from g1)
      clear g1 hbX c6
      go_wp2_with fail
      refine (nm_pt7 z7 _ HH7.out).mono ?_
      rintro e t7 ⟨a7, k7, rfl, hbX⟩
      have c7 := Lib.hid (bt e7.out hbX (Nat.le_refl _))
      clear hbX e7 HH7
      go_wp2_with fail
      refine (nm_pt8 _).mono ?_
      rintro e t8 ⟨a8, k8, rfl, hbX⟩
      have c8 := Lib.hid (bt c7.out hbX (Nat.le_refl _))
      clear hbX c7 
      go_wp2_with fail
      refine (held_is 1 1 _).mono ?_
      rintro e v9 ⟨z9, rfl, _, g1, hbX⟩
      have e9 := Lib.hid (bt c8.out hbX (Nat.le_refl _))
      have HH9 := Lib.hid (show ExH v9 z9 1 1 from g1)
      clear g1 hbX c8
      go_wp2_with fail
      refine (nm_pt9 z9 _ HH9.out).mono ?_
      rintro e t9 ⟨a9, k9, rfl, hA9, hbX⟩
      have c9 := Lib.hid (bt e9.out hbX (Nat.le_refl _))
      have P9 := Lib.hid hA9
      clear hA9
      clear hbX e9 HH9
      go_wp2_with fail
      refine (held_is 1 1 _).mono ?_
      rintro e v10 ⟨z10, rfl, _, g1, hbX⟩
      have e10 := Lib.hid (bt c9.out hbX (Nat.le_refl _))
      have HH10 := Lib.hid (show ExH v10 z10 1 1 from g1)
      have HV := Lib.hid (P9.out.below hbX)
      clear P9
      have P9 := HV
      clear HV
      clear g1 hbX c9
      go_wp2_with fail
      refine (nm_pt10 z10 _ HH10.out).mono ?_
      rintro e t10 ⟨a10, k10, rfl, hbX⟩
      have c10 := Lib.hid (bt e10.out hbX (Nat.le_refl _))
      have HV := Lib.hid (P9.out.below hbX)
      clear P9
      have P9 := HV
      clear HV
      clear hbX e10 HH10
      go_wp2_with fail
      refine (held_is 1 1 _).mono ?_
      rintro e v11 ⟨z11, rfl, _, g1, hbX⟩
      have e11 := Lib.hid (bt c10.out hbX (Nat.le_refl _))
      have HH11 := Lib.hid (show ExH v11 z11 1 1 from g1)
      have HV := Lib.hid (P9.out.below hbX)
      clear P9
      have P9 := HV
      clear HV
      clear g1 hbX c10
      go_wp2_with fail
      refine (nm_pt11 z11 _ HH11.out).mono ?_
      rintro e t11 ⟨a11, k11, rfl, hbX⟩
      have c11 := Lib.hid (bt e11.out hbX (Nat.le_refl _))
      have HV := Lib.hid (P9.out.below hbX)
      clear P9
      have P9 := HV
      clear HV
      clear hbX e11 HH11
      go_wp2_with fail
      refine (held_is 1 1 _).mono ?_
      rintro e v12 ⟨z12, rfl, _, g1, hbX⟩
      have e12 := Lib.hid (bt c11.out hbX (Nat.le_refl _))
      have HH12 := Lib.hid (show ExH v12 z12 1 1 from g1)
      have HV := Lib.hid (P9.out.below hbX)
      clear P9
      have P9 := HV
      clear HV
      clear g1 hbX c11
      go_wp2_with fail
      refine (nm_pt12 z12 _ HH12.out).mono ?_
      rintro e t12 ⟨a12, k12, rfl, hA12, hbX⟩
      have c12 := Lib.hid (bt e12.out hbX (Nat.le_refl _))
      have HV := Lib.hid (P9.out.below hbX)
      clear P9
      have P9 := HV
      clear HV
      have P12 := Lib.hid hA12
      clear hA12
      clear hbX e12 HH12
      go_wp2_with fail
      refine (table_is _).mono ?_
      rintro e u0 ⟨x, y, rfl, hx9, hy9, g1, g2, hbX⟩
      have d0 := bt c12.out hbX (Nat.le_refl _)
      have n1 : x ≠ u0.heap.size := by have := blk_lt g1; omega
      have n2 : y ≠ u0.heap.size := by have := blk_lt g2; omega
      have n3 : x ≠ y := fun e => by rw [e, g2] at g1; injection g1 with g1; injection g1 with _ g1; revert g1; decide
      have h1 := blk_past u0 (.cells #[.slice (some ⟨x, 0, none⟩) 2 2, .slice (some ⟨y, 0, none⟩) 1 1] 25) g1
      have h2 := blk_past u0 (.cells #[.slice (some ⟨x, 0, none⟩) 2 2, .slice (some ⟨y, 0, none⟩) 1 1] 25) g2
      have h3 := blk_new u0 (.cells #[.slice (some ⟨x, 0, none⟩) 2 2, .slice (some ⟨y, 0, none⟩) 1 1] 25)
      have q0 : (u0.alloc (.cells #[.slice (some ⟨x, 0, none⟩) 2 2, .slice (some ⟨y, 0, none⟩) 1 1] 25)).cell? ⟨x, 5, none⟩ = some (.bool true) := cell_of h1 5 _ rfl
      have f0 : (u0.alloc (.cells #[.slice (some ⟨x, 0, none⟩) 2 2, .slice (some ⟨y, 0, none⟩) 1 1] 25)).frozen? ⟨x, 5, none⟩ = false := frozen_of h1 5
      have HX := Lib.hid (set_blk (o := 5) (ds := #[.string ⟨#[97]⟩, .string ⟨#[105]⟩, .int .i64 100, .int .i64 100, .int .i64 1000, .bool false, .string ⟨#[98]⟩, .string ⟨#[105]⟩, .int .i64 10, .int .i64 0, .int .i64 1000, .bool true]) h1 (.bool false) rfl)
      have HY := Lib.hid (set_far h2 (g := x) (o := 5) (.bool false) n3)
      have HT := Lib.hid (set_far (o := 5) h3 (.bool false) n1)
      have HD := Lib.hid ((d0.alloc d0.size (.cells #[.slice (some ⟨x, 0, none⟩) 2 2, .slice (some ⟨y, 0, none⟩) 1 1] 25)).setCell (p := ⟨x, 5, none⟩) (show w.heap.size ≤ x by have := c12.out.size; omega) (.bool false))
      have t0 := cell_of HT.out 0 _ rfl
      have t1 := cell_of HT.out 1 _ rfl
      have HK := Lib.hid ((hbX.alloc hbX.size (.cells #[.slice (some ⟨x, 0, none⟩) 2 2, .slice (some ⟨y, 0, none⟩) 1 1] 25)).setCell (p := ⟨x, 5, none⟩) hx9 (.bool false))
      have Q9 := Lib.hid (P9.out.below HK.out)
      have Q12 := Lib.hid (P12.out.below HK.out)
      clear h1 h2 g1 g2 hbX P9 P12 HK hx9 hy9 c12
      go_wp2_with fail
      generalize World.setCell _ _ _ = w3 at HX HY HT HD t0 t1 Q9 Q12 ⊢
      clear h3 q0 f0 d0 n1 n2 n3
      have HB := Lib.hid (show ∀ wx, Below w3.heap.size w3 wx → wx.cell? ⟨u0.heap.size, 0, none⟩ = some (.slice (some ⟨x, 0, none⟩) 2 2) ∧ wx.cell? ⟨u0.heap.size, 1, none⟩ = some (.slice (some ⟨y, 0, none⟩) 1 1) from
        fun wx hx => ⟨cell_of (blk_keep HT.out hx) 0 _ rfl, cell_of (blk_keep HT.out hx) 1 _ rfl⟩)
      have k0 : Below w3.heap.size w3 w3 := Below.refl _ _
      have kd := k0.drew
      have hul := blk_lt HT.out
      go_upto_region 36 with fail
      go_cut [28, 29] from 159 to 164 (fun p q wn => p = .int .i64 30 ∧ q = .int .i64 0 ∧ Hid (Below w3.heap.size w3 wn))
      case first =>
        go_region_held3 (fun w' => w'.cell? ⟨u0.heap.size, 0, none⟩ = some (.slice (some ⟨x, 0, none⟩) 2 2) ∧ w'.cell? ⟨u0.heap.size, 1, none⟩ = some (.slice (some ⟨y, 0, none⟩) 1 1))
          (first | with_reducible exact HB.out _ (by assumption) | with_reducible exact HB.out _ (Below.drew (by assumption)) | go_keep)
          (first
            | (go_at_call 34; refine (held_is 5 3 _).mono ?_; rintro e w5 ⟨z, rfl, _, gz, hb5⟩; have k5 : Below w3.heap.size w3 w5 := bt kd hb5 (Nat.le_refl _); have HZ5 := Lib.hid (show ExH w5 z 5 3 from gz); have HX5 := Lib.hid (blk_keep HX.out k5); have HY5 := Lib.hid (blk_keep HY.out k5))
            | (go_at_call 18; refine (nm_value13 x y z _ HX5.out HY5.out HZ5.out).mono ?_; rintro e w6 ⟨rfl, hb6⟩; have k6 : Below w3.heap.size w3 w6 := bt k5 hb6 (Nat.le_refl _)))
        all_goals
          go_wp2
          go_meet
          case rel => exact ⟨rfl, rfl, Lib.hid (by first | exact k6 | exact k6.drew)⟩
      case rest =>
        obtain ⟨rfl, rfl, HQ⟩ := hcut
        obtain ⟨b9, o9, rfl, _, hc9⟩ := (show ∃ b o, a9 = some ⟨b, o, none⟩ ∧ True ∧ wc.cell? ⟨b, o + 2, none⟩ = some (.string ⟨#[97, 97]⟩) by
          obtain ⟨b, o, h1, h2, _⟩ := at_is (Q9.out.below HQ.out) 1 (by decide)
          exact ⟨b, o, h1, trivial, h2⟩)
        obtain ⟨b12, o12, rfl, _, hc12⟩ := (show ∃ b o, a12 = some ⟨b, o, none⟩ ∧ True ∧ wc.cell? ⟨b, o, none⟩ = some (.string ⟨#[98]⟩) by
          obtain ⟨b, o, h1, h2, _⟩ := at_is (Q12.out.below HQ.out) 0 (by decide)
          exact ⟨b, o, h1, trivial, h2⟩)
        have cE := Lib.hid (bt HD.out HQ.out (Nat.le_refl _))
        clear HX HY HT HD t0 t1 Q9 Q12 HB k0 kd hul HQ
        go_wp2_with fail
        refine (alive_any wc).mono ?_
        rintro e w9 ⟨rfl, hbX⟩
        have cF := bt cE.out hbX (Nat.le_refl _)
        clear cE hbX hc9 hc12
        go_wp2
        go_ret
        exact ⟨rfl, cF⟩
end Go.Proofs.Ytbfgnkakcnhojaa.Co

