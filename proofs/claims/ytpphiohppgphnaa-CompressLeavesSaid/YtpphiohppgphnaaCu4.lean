/-
  Compress: owed; its contract as an iterator; what the caller's loop over it keeps.
-/
import Derived.Test.YtpphiohppgphnaaCu3
namespace Go.Proofs.Ytpphiohppgphnaa.Cs
open Go.RowKit Go.Proofs.Ytpphiohppgphnaa Go.Proofs.Ytpphiohppgphnaa.Ls Go.Proofs.Ytpphiohppgphnaa.Kb Go.Proofs.Ytpphiohppgphnaa.Cz
open Go.Proofs.Ytpphiohppgphnaa.Nm hiding ret_bool ret_int hb'
attribute [local go_sem] Oper.semAt_some

theorem blk_three (w : World) (o p q : Obj) : (((w.alloc o).alloc p).alloc q).heap[w.heap.size]? = some o ∧ (((w.alloc o).alloc p).alloc q).heap[w.heap.size + 1]? = some p ∧ (((w.alloc o).alloc p).alloc q).heap[w.heap.size + 1 + 1]? = some q := by
  have h := blk_two w o p
  refine ⟨blk_past _ _ h.1, blk_past _ _ h.2, ?_⟩
  have := blk_new ((w.alloc o).alloc p) q
  simpa using this
set_option maxRecDepth 100000 in
theorem owed_any (a : Option Addr) (n cL : Nat) (c p : ByteArray) (w : World) :
    Calls Try.prog 45 #[.slice a n cL, .string c, .string p] w fun e w' => e = .returned (.func (.func 49) #[] #[.pointer (some ⟨w.heap.size, 0, none⟩), .pointer (some ⟨w.heap.size + 1, 0, none⟩), .pointer (some ⟨w.heap.size + 1 + 1, 0, none⟩)]) ∧
      w'.heap[w.heap.size]? = some (.cells #[.slice a n cL] 22 (0, 0)) ∧ w'.heap[w.heap.size + 1]? = some (.cells #[.string c] 9 (0, 0)) ∧ w'.heap[w.heap.size + 1 + 1]? = some (.cells #[.string p] 9 (0, 0)) ∧ w'.heap.size = w.heap.size + 1 + 1 + 1 ∧ Below w.heap.size w w' := by
  have HK := Lib.hid (blk_three w (.cells #[.slice a n cL] 22) (.cells #[.string c] 9) (.cells #[.string p] 9))
  have HB := Lib.hid (show Below w.heap.size w (((w.alloc (.cells #[.slice a n cL] 22)).alloc (.cells #[.string c] 9)).alloc (.cells #[.string p] 9)) from (((Below.refl _ _).alloc (Nat.le_refl _) _).alloc (by simp) _).alloc (by simp <;> omega) _)
  go_enter Try.func45, Try.ntmps45
  go_wp2
  go_ret
  exact ⟨rfl, HK.out.1, HK.out.2.1, HK.out.2.2, by simp, HB.out⟩
theorem owed_stops (a : Option Addr) (cL : Nat) (l : List Tr) (c p : ByteArray) (B0 B1 B2 N : Nat) (wb w1 : World) (hn : l.length ≤ 1000000) (hN : 1 ≤ N) (hA : AtL wb 4 trc a l) (hbel : Below wb.heap.size wb w1)
    (h0 : w1.heap[B0]? = some (.cells #[.slice a l.length cL] 22 (0, 0))) (h1 : w1.heap[B1]? = some (.cells #[.string c] 9 (0, 0))) (h2 : w1.heap[B2]? = some (.cells #[.string p] 9 (0, 0))) :
    SeqStopsK Fence.wide N Try.prog 49 #[.pointer (some ⟨B0, 0, none⟩), .pointer (some ⟨B1, 0, none⟩), .pointer (some ⟨B2, 0, none⟩)] (encT l) (KpG wb.heap.size [B1, B2])
      (fun ys => ys = owL l c p l.length) (fun pre => pre <+: owL l c p l.length) l.length w1 := fun Y J Jx W hW hJ hJx hY hJ0 =>
  owed_in a cL l c p B0 B1 B2 Y N J Jx wb W hn hN hA (hbel.trans (hW.mono hbel.size)) (blk_keep h0 hW) (blk_keep h1 hW) (blk_keep h2 hW) hJ hJx hY hJ0
theorem kpG_b {base : Nat} {bs : List Nat} {w : World} (hbase : base ≤ w.heap.size) (hbs : ∀ b ∈ bs, b < w.heap.size) (W : World) (l : Nat) (o o' : Obj) (hl : w.heap.size ≤ l) (h : W.heap[l]? = some o) (_ : o.isCells = false) (hk : o.isWalk = false) : KpG base bs W (W.putObj l o') := by
  have hbe : Below base W (W.putObj l o') := ⟨rfl, rfl, rfl, by simp [World.putObj], fun i hi => World.putObj_heap_other (by omega)⟩
  refine ⟨⟨hbe.size, fun k o1 hk1 hw1 => ?_⟩, fun b hb => World.putObj_heap_other (by have := hbs b hb; omega), hbe⟩
  by_cases e : k = l
  · subst e
    rw [h] at hk1
    cases hk1
    rw [hk] at hw1
    cases hw1
  · rw [World.putObj_heap_other e, hk1]
/-- the list of a prefix: where it stands among the trades -/
theorem owL_step {l : List Tr} {c p : ByteArray} {pre : List Nat} {i : Nat} (h : pre ++ [i] <+: owL l c p l.length) : Out l c p i ∧ pre = owL l c p i := by
  have key : ∀ n, ∀ pre : List Nat, pre ++ [i] <+: owL l c p n → i < n ∧ (gt l i).con = c ∧ (gt l i).fr = p ∧ pre = owL l c p i := by
    intro n
    induction n with
    | zero =>
      intro pre h
      have := h.length_le
      rw [List.length_append, List.length_singleton] at this
      have := owL_len l c p 0
      omega
    | succ n ih =>
      intro pre h
      rw [owL_succ] at h
      split at h
      · rename_i hx
        rcases List.prefix_concat_iff.1 h with e | e
        · have e1 := List.append_inj' e rfl
          have e2 : i = n := by injection e1.2
          subst e2
          exact ⟨Nat.lt_succ_self _, hx.1, hx.2, e1.1⟩
        · obtain ⟨h1, h2⟩ := ih pre e
          exact ⟨Nat.lt_succ_of_lt h1, h2⟩
      · obtain ⟨h1, h2⟩ := ih pre h
        exact ⟨Nat.lt_succ_of_lt h1, h2⟩
  obtain ⟨h1, h2, h3, h4⟩ := key l.length pre h
  exact ⟨⟨h1, h2, h3⟩, h4⟩
/-- from the one trade to the next: those between are none of the party's -/
theorem inn_from {l : List Tr} {c T : ByteArray} {g : List Nat} {w : ByteArray × List Nat} {q : Ways} {seen : List ByteArray} {k : Nat} (h : Inn l c T g w k q seen) : ∀ {i : Nat}, k ≤ i → owL l c w.1 i = owL l c w.1 k → Inn l c T g w i q seen := by
  intro i
  induction i with
  | zero =>
    intro hk _
    obtain rfl : k = 0 := by omega
    exact h
  | succ i ih =>
    intro hk he
    rcases Nat.eq_or_lt_of_le hk with e | e
    · subst e; exact h
    · have h1 := owL_pre l c w.1 (show k ≤ i by omega)
      have h2 := owL_succ l c w.1 i
      have hne : ¬ ((gt l i).con = c ∧ (gt l i).fr = w.1) := fun hx => by
        rw [if_pos hx, he] at h2
        have h3 := h1.length_le
        rw [h2, List.length_append, List.length_singleton] at h3
        omega
      rw [if_neg hne] at h2
      exact inn_skip (ih (by omega) (by rw [← h2]; exact he)) (fun ho => hne ho.2)
end Go.Proofs.Ytpphiohppgphnaa.Cs
