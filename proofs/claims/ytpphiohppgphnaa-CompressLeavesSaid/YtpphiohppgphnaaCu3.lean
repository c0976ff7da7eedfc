/-
  Compress: the walk of owed and of the iterator that it returns.
-/
import Derived.Test.YtpphiohppgphnaaCu2
import Derived.RangeFuncNested
import Derived.RangeFuncBound
import Derived.RangeFuncCalls
import Derived.RangeFuncLeaves
import Derived.RangeFuncKeeps
import Derived.OwnWalkIn
import Derived.TacticsInMore
import Derived.LoopNIn
import Derived.LoopIn
import Derived.RangeFuncWrites
import Derived.Shelf.Abstract
namespace Go.Proofs.Ytpphiohppgphnaa.Cs
open Go.RowKit Go.Proofs.Ytpphiohppgphnaa Go.Proofs.Ytpphiohppgphnaa.Ls Go.Proofs.Ytpphiohppgphnaa.Kb Go.Proofs.Ytpphiohppgphnaa.Cz
open Go.Proofs.Ytpphiohppgphnaa.Nm hiding ret_bool ret_int hb'
attribute [local go_sem] Oper.semAt_some

theorem grown_of {w w' : World} (h : Below w.heap.size w w') : w.grownBy w' none := ⟨h.os, h.tape, h.output, h.size, fun i hi _ => h.block i hi⟩
/-- what stays as it was while a round runs: what is no row of cells; some blocks; all that is older than the caller -/
def KpG (base : Nat) (bs : List Nat) (W W' : World) : Prop := KeepsWalks W W' ∧ (∀ b ∈ bs, W'.heap[b]? = W.heap[b]?) ∧ Below base W W'
theorem KpG.t {base : Nat} {bs : List Nat} {A B C : World} (h : KpG base bs A B) (k : KpG base bs B C) : KpG base bs A C := ⟨h.1.trans k.1, fun b hb => (k.2.1 b hb).trans (h.2.1 b hb), h.2.2.trans k.2.2⟩
/-- the trades of a contract in which a party owes something, up to the k-th -/
def owL (l : List Tr) (c p : ByteArray) (k : Nat) : List Nat := (List.range k).filter fun i => decide ((gt l i).con = c) && decide ((gt l i).fr = p)
theorem owL_succ (l : List Tr) (c p : ByteArray) (k : Nat) : owL l c p (k + 1) = if (gt l k).con = c ∧ (gt l k).fr = p then owL l c p k ++ [k] else owL l c p k := by
  unfold owL
  rw [List.range_succ, List.filter_append]
  by_cases h : (gt l k).con = c ∧ (gt l k).fr = p
  · rw [if_pos h]
    congr 1
    simp [h.1, h.2]
  · rw [if_neg h]
    have : ([k].filter fun i => decide ((gt l i).con = c) && decide ((gt l i).fr = p)) = [] := by
      rw [List.filter_cons_of_neg (by simpa using h), List.filter_nil]
    rw [this, List.append_nil]
theorem owL_pre (l : List Tr) (c p : ByteArray) {k n : Nat} (h : k ≤ n) : owL l c p k <+: owL l c p n := by
  unfold owL
  refine List.IsPrefix.filter _ ?_
  rw [show n = k + (n - k) by omega, List.range_add]
  exact List.prefix_append _ _
theorem owL_len (l : List Tr) (c p : ByteArray) (k : Nat) : (owL l c p k).length ≤ k := Nat.le_trans (List.length_filter_le _ _) (by rw [List.length_range]; exact Nat.le_refl _)
/-- an index of the list, whatever number it is (the caller's body is to be shown for any) -/
def ix (l : List Tr) (i : Nat) : Nat := if i < l.length then i else 0
theorem ix_is {l : List Tr} {i : Nat} (h : i < l.length) : ix l i = i := if_pos h
theorem ix_lt {l : List Tr} (i : Nat) (h : 0 < l.length) : ix l i < l.length := by
  unfold ix
  split
  · assumption
  · exact h
def encT (l : List Tr) (x : Nat) : Array Value := #[.int .i64 (ix l x), .agg #[.string (gt l (ix l x)).fr, .string (gt l (ix l x)).to_, .string (gt l (ix l x)).con, .int .i64 (gt l (ix l x)).amt]]
/-- what the iterator needs: the caller's word, its own blocks -/
structure StO (wb : World) (J : List Nat → World → Prop) (B1 B2 : Nat) (c p : ByteArray) (pre : List Nat) (v : World) : Prop where
  j : J pre v
  bel : Below wb.heap.size wb v
  b1 : v.heap[B1]? = some (.cells #[.string c] 9 (0, 0))
  b2 : v.heap[B2]? = some (.cells #[.string p] 9 (0, 0))
theorem StO.below {wb : World} {B : Nat} {J : List Nat → World → Prop} {B1 B2 : Nat} {c p : ByteArray} {pre : List Nat} {v w : World} (hJ : AbidesFrom B J) (h : StO wb J B1 B2 c p pre v) (hb : Below v.heap.size v w) : StO wb J B1 B2 c p pre w :=
  ⟨hJ _ _ _ none h.j (grown_of hb) (by simp), bt h.bel hb (Nat.le_refl _), blk_keep h.b1 hb, blk_keep h.b2 hb⟩
theorem StO.round {wb : World} {J : List Nat → World → Prop} {B1 B2 : Nat} {c p : ByteArray} {pre pre' : List Nat} {v w : World} (h : StO wb J B1 B2 c p pre v) (hj : J pre' w) (hk : KpG wb.heap.size [B1, B2] v w) : StO wb J B1 B2 c p pre' w :=
  ⟨hj, h.bel.trans hk.2.2, by rw [hk.2.1 B1 (by simp), h.b1], by rw [hk.2.1 B2 (by simp), h.b2]⟩
set_option maxRecDepth 100000 in
set_option maxHeartbeats 4000000 in
theorem owed_in (a : Option Addr) (cL : Nat) (l : List Tr) (c p : ByteArray) (B0 B1 B2 Y N : Nat) (J Jx : List Nat → World → Prop) (wb W : World) (hn : l.length ≤ 1000000) (hN : 1 ≤ N) (hA : AtL wb 4 trc a l) (hbel : Below wb.heap.size wb W)
    (h0 : W.heap[B0]? = some (.cells #[.slice a l.length cL] 22 (0, 0))) (h1 : W.heap[B1]? = some (.cells #[.string c] 9 (0, 0))) (h2 : W.heap[B2]? = some (.cells #[.string p] 9 (0, 0)))
    (hJ : AbidesFrom W.heap.size J) (_hJx : AbidesFrom W.heap.size Jx)
    (hY : ∀ pre x W1, J pre W1 → pre.length < l.length → YieldAt Fence.wide (N - 1) Try.prog Y (encT l x) W1 fun e W' =>
      (e = .returned (.bool true) ∧ J (pre ++ [x]) W' ∧ KpG wb.heap.size [B1, B2] W1 W') ∨ (e = .returned (.bool false) ∧ Jx (pre ++ [x]) W'))
    (hJ0 : J [] W) :
    CallsIn Fence.wide N Try.prog 49 (#[.func (.yield Y) #[] #[]] ++ #[.pointer (some ⟨B0, 0, none⟩), .pointer (some ⟨B1, 0, none⟩), .pointer (some ⟨B2, 0, none⟩)]) W fun e W' => (∃ v, e = .returned v) ∧
      ((∃ ys, ys = owL l c p l.length ∧ J ys W') ∨ (∃ pre, pre <+: owL l c p l.length ∧ Jx pre W')) := by
  have HST := Lib.hid (StO.mk hJ0 hbel h1 h2)
  have c0 := cell_of h0 0 _ rfl
  change W.cell? _ = some (.slice a l.length cL) at c0
  have HA := Lib.hid hA
  clear h0 h1 h2 hA hbel hJ0
  refine callsIn_of_wp Try.func49 rfl trivial ?_ rfl
  simp only [Try.ntmps49, List.size_toArray, List.length_cons, List.length_nil, Nat.reduceAdd, Nat.reduceSub, Array.replicate_succ, Array.replicate_zero, List.push_toArray, List.append_toArray, List.nil_append, List.cons_append]
  gi_wp2
  clear c0
  gi_loopw [5, 6, 9] (fun _ _ i wr => ∃ k : Nat, k ≤ l.length ∧ i = .int .i64 k ∧ Hid (StO wb J B1 B2 c p (owL l c p k) wr)) (fun _ _ i _ => l.length - (intOf i).toNat)
  case atStart => exact ⟨0, by omega, rfl, HST⟩
  case round =>
    clear HST
    obtain ⟨k, hk, rfl, HST⟩ := hrel
    rcases Nat.lt_or_ge k l.length with hlt | hge
    · have hki : (k : Int) < l.length := by omega
      have hk0 : (0 : Int) ≤ (k : Int) := by omega
      obtain ⟨lb, lo, rfl, q0, q1, q2, q3⟩ := at_tr (HA.out.below HST.out.bel) k hlt
      have HS := Lib.hid (owL_succ l c p k)
      have HLN := Lib.hid (owL_len l c p k)
      have HPR := Lib.hid (owL_pre l c p (show k + 1 ≤ l.length from hlt))
      have HS1 := Lib.hid (HST.out.below hJ ((Below.refl wr.heap.size wr).alloc (Nat.le_refl _) (.cells #[.string (gt l k).fr, .string (gt l k).to_, .string (gt l k).con, .int .i64 (gt l k).amt] 31)))
      have HBX := Lib.hid (blk_new wr (.cells #[.string (gt l k).fr, .string (gt l k).to_, .string (gt l k).con, .int .i64 (gt l k).amt] 31))
      have c1 : wr.cell? ⟨B1, 0, none⟩ = some (.string c) := cell_of HST.out.b1 0 _ rfl
      have c2 : wr.cell? ⟨B2, 0, none⟩ = some (.string p) := cell_of HST.out.b2 0 _ rfl
      have hb1 := blk_lt HST.out.b1
      have hb2 := blk_lt HST.out.b2
      have n1 : wr.heap.size ≠ B1 := by omega
      have n2 : wr.heap.size ≠ B2 := by omega
      by_cases hc : (gt l k).con = c
      · have e1 := eq_yes hc
        by_cases hp : (gt l k).fr = p
        · have e2 := eq_yes hp
          rw [if_pos ⟨hc, hp⟩] at HS
          have HY := Lib.hid (hY (owL l c p k) k _ HS1.out.j (by have := HLN.out; omega))
          clear hc hp
          obtain ⟨fn, tmps, assign, body, hy, hR⟩ := HY.out
          clear HY
          have hix := ix_is hlt
          dsimp only [encT] at hy
          rw [hix] at hy
          clear hix
          gi_wp2
          refine hR.mono ?_
          rintro e W3 (⟨rfl, hJ3, hk3⟩ | ⟨rfl, hJx3⟩)
          · have HS6 := Lib.hid (HS1.out.round (J := J) (pre' := owL l c p (k + 1)) (by rw [HS.out]; exact hJ3) hk3)
            clear hJ3 hk3
            gi_wp2
            go_roundw
            case rel => exact ⟨k + 1, by omega, by go_num, HS6⟩
            case measure => simp [intOf]; omega
          · gi_wp2
            refine bodyPost_ret (results_none rfl _ _ _) rfl ?_
            exact ⟨⟨_, rfl⟩, .inr ⟨_, by rw [← HS.out]; exact HPR.out, hJx3⟩⟩
        · have e2 := eq_no hp
          rw [if_neg (fun h => hp h.2)] at HS
          clear hc hp hY
          gi_wp2
          refine ⟨(fun f h => nomatch h), ?_⟩
          gi_wp2
          go_roundw
          case rel => exact ⟨k + 1, by omega, by go_num, by rw [HS.out]; exact HS1⟩
          case measure => simp [intOf]; omega
      · have e1 := eq_no hc
        rw [if_neg (fun h => hc h.1)] at HS
        clear hc hY
        gi_wp2
        refine ⟨(fun f h => nomatch h), ?_⟩
        gi_wp2
        go_roundw
        case rel => exact ⟨k + 1, by omega, by go_num, by rw [HS.out]; exact HS1⟩
        case measure => simp [intOf]; omega
    · obtain rfl : k = l.length := by omega
      gi_wp2
      go_end0
      exact ⟨⟨_, rfl⟩, .inl ⟨_, rfl, HST.out.j⟩⟩
end Go.Proofs.Ytpphiohppgphnaa.Cs
