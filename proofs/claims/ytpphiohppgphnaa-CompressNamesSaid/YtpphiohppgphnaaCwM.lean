/-
  Compress: the lists that are not valid, in memory.
-/
import Derived.Test.YtpphiohppgphnaaCvN
import Derived.Laws.MakeOwn
namespace Go.Proofs.Ytpphiohppgphnaa.Cs
open Go.RowKit Go.Proofs.Ytpphiohppgphnaa Go.Proofs.Ytpphiohppgphnaa.Ls Go.Proofs.Ytpphiohppgphnaa.Kb Go.Proofs.Ytpphiohppgphnaa.Cz
open Go.Proofs.Ytpphiohppgphnaa.Nm hiding ret_bool ret_int hb'

/-- each cell of a block is a list that is not valid -/
def BadM (X : Nat) (w : World) : Prop := ∀ K, K < 8 → ∃ (a : Option Addr) (l : List Tr), w.cell? ⟨X, K, none⟩ = some (.slice a l.length l.length) ∧ AtL w 4 trc a l ∧ chkE l = 8 ∧ (l.all fun x => decide (x.fr.size ≤ 1000) && decide (x.to_.size ≤ 1000) && decide (x.con.size ≤ 1000)) = true ∧ l.length ≤ 2
theorem BadM.below {X : Nat} {w w' : World} (h : BadM X w) (hb : Below w.heap.size w w') : BadM X w' := fun K hK => by
  obtain ⟨a, l, h1, h2, h3⟩ := h K hK
  exact ⟨a, l, keep h1 hb, h2.below hb, h3⟩
theorem bad_net {l : List Tr} (h : chkE l = 8) : netF l ⟨#[]⟩ ⟨#[]⟩ = 0 ∧ netE l ⟨#[]⟩ ⟨#[]⟩ = 8 := by
  unfold netF netE
  rw [if_neg (by rw [h]; decide), if_neg (by rw [h]; decide)]
  exact ⟨rfl, h⟩
theorem bad_mem {X : Nat} {w : World} {T : TypeId} {a0 a1 a2 a3 a4 a5 a6 a7 : Option Addr} (h : w.heap[X]? = some (.cells #[.slice a0 1 1, .slice a1 1 1, .slice a2 1 1, .slice a3 1 1, .slice a4 1 1, .slice a5 2 2, .slice a6 2 2, .slice a7 1 1] T (0, 0)))
    (h0 : AtL w 4 trc a0 [owes #[97] #[97] 1]) (h1 : AtL w 4 trc a1 [owes #[97] #[98] 0]) (h2 : AtL w 4 trc a2 [owes #[97] #[98] 1125899906842625]) (h3 : AtL w 4 trc a3 [owes #[] #[98] 1]) (h4 : AtL w 4 trc a4 [owes #[97] #[49] 1])
    (h5 : AtL w 4 trc a5 [owes #[97] #[98] 1, owes #[97] #[98] 2]) (h6 : AtL w 4 trc a6 [owes #[98] #[97] 1, owes #[97] #[98] 2]) (h7 : AtL w 4 trc a7 [⟨⟨#[97]⟩, ⟨#[98]⟩, ⟨#[]⟩, 1⟩]) : BadM X w := fun K hK => by
  have : K = 0 ∨ K = 1 ∨ K = 2 ∨ K = 3 ∨ K = 4 ∨ K = 5 ∨ K = 6 ∨ K = 7 := by omega
  rcases this with rfl | rfl | rfl | rfl | rfl | rfl | rfl | rfl
  · exact ⟨a0, _, cell_of h 0 _ rfl, h0, by decide +kernel, by decide, by decide⟩
  · exact ⟨a1, _, cell_of h 1 _ rfl, h1, by decide +kernel, by decide, by decide⟩
  · exact ⟨a2, _, cell_of h 2 _ rfl, h2, by decide +kernel, by decide, by decide⟩
  · exact ⟨a3, _, cell_of h 3 _ rfl, h3, by decide +kernel, by decide, by decide⟩
  · exact ⟨a4, _, cell_of h 4 _ rfl, h4, by decide +kernel, by decide, by decide⟩
  · exact ⟨a5, _, cell_of h 5 _ rfl, h5, by decide +kernel, by decide, by decide⟩
  · exact ⟨a6, _, cell_of h 6 _ rfl, h6, by decide +kernel, by decide, by decide⟩
  · exact ⟨a7, _, cell_of h 7 _ rfl, h7, by decide +kernel, by decide, by decide⟩
/-- 201 trades of nothing -/
def zz : Array Value := Builtin.zeroCells #[.string ⟨#[]⟩, .string ⟨#[]⟩, .string ⟨#[]⟩, .int .i64 0] 201
theorem zz_list : zz.toList = (List.replicate 201 t0).flatMap trc := zeroCells_flat trc 4 trc_len (by decide) _ t0 rfl 201
theorem zz_made : madeCells (Value.agg #[.string ⟨#[]⟩, .string ⟨#[]⟩, .string ⟨#[]⟩, .int .i64 0]).cells 804 = zz := by
  unfold zz madeCells Builtin.zeroCells
  rw [show (#[Value.string ⟨#[]⟩, .string ⟨#[]⟩, .string ⟨#[]⟩, .int .i64 0] : Array Value).size = 4 from rfl, show (Value.agg #[.string ⟨#[]⟩, .string ⟨#[]⟩, .string ⟨#[]⟩, .int .i64 0]).cells = (#[Value.string ⟨#[]⟩, .string ⟨#[]⟩, .string ⟨#[]⟩, .int .i64 0] : Array Value) from rfl]
  rfl
theorem make_tr (w : World) : (Instr.makeSlice 22 (.int .i64 201) (.int .i64 201)).run Try.prog w = .ok (.slice (some ⟨w.heap.size, 0, none⟩) 201 201) (w.alloc (.cells zz 31)) := by
  obtain ⟨i0, hi, hz0, hz1, hz2⟩ := info_parts info_tr
  have hr := run_makeSlice (P := Try.prog) w 22 31 i0 _ Try.underlying22 hi hz0 .i64 .i64 201 201 (by decide) (by decide) (by rw [hz1]; decide) (by rw [hz2]; decide) (by decide)
  rw [hr, hz1]
  rw [show (201 : Int).toNat * 4 = 804 from rfl, zz_made]
  rfl
theorem zz_chk : chkE (List.replicate 201 t0) = 4 := by
  unfold chkE
  rw [if_pos (by rw [List.length_replicate]; decide)]
theorem zz_gro : groF (List.replicate 201 t0) = 0 ∧ chkE (List.replicate 201 t0) = 4 := by
  refine ⟨?_, zz_chk⟩
  unfold groF
  rw [if_neg (by rw [zz_chk]; decide)]
theorem zz_sz : SzT (List.replicate 201 t0) := szT_of fun x hx => by
  rw [List.eq_of_mem_replicate hx]
  exact ⟨Nat.zero_le _, Nat.zero_le _, Nat.zero_le _⟩
end Go.Proofs.Ytpphiohppgphnaa.Cs
