/-
  Compress: contracts at trades that are written out; the walk of alive.
-/
import Derived.Test.YtpphiohppgphnaaCvP
import Derived.Test.YtpphiohppgphnaaCvO
namespace Go.Proofs.Ytpphiohppgphnaa.Cs
open Go.RowKit Go.Proofs.Ytpphiohppgphnaa Go.Proofs.Ytpphiohppgphnaa.Ls Go.Proofs.Ytpphiohppgphnaa.Kb Go.Proofs.Ytpphiohppgphnaa.Cz
open Go.Proofs.Ytpphiohppgphnaa.Nm hiding ret_bool ret_int hb'

theorem at_blk {α : Type} {w : World} {b k : Nat} {T : TypeId} {cs : Array Value} {f : α → List Value} {xs : List α} (hk : ∀ x, (f x).length = k) (h : w.heap[b]? = some (.cells cs T (0, 0))) (hc : cs.toList = xs.flatMap f) : AtL w k f (some ⟨b, 0, none⟩) xs := by
  intro i x hx
  refine ⟨b, 0, rfl, fun j u hu => ?_⟩
  refine cell_of h _ u ?_
  have hj : j < k := by
    rw [← hk x]
    exact (List.getElem?_eq_some_iff.1 hu).1
  have := flat_get f k hk xs i j hj
  rw [hx] at this
  simp only [Option.bind_some] at this
  rw [← Array.getElem?_toList, hc, Nat.zero_add, this]
  exact hu
theorem szT_dec {l : List Tr} (h : (l.all fun x => decide (x.fr.size ≤ 1000) && decide (x.to_.size ≤ 1000) && decide (x.con.size ≤ 1000)) = true) : SzT l := szT_of fun x hx => by
  rw [List.all_eq_true] at h
  have := h x hx
  simp only [Bool.and_eq_true, decide_eq_true_eq] at this
  unfold maxLen
  omega
set_option maxRecDepth 100000 in
theorem owes_any (f t : ByteArray) (n : Int) (w : World) :
    Calls Try.prog 23 #[.string f, .string t, .int .i64 n] w fun e w' => e = .returned (.agg #[.string f, .string t, .string ⟨#[99]⟩, .int .i64 n]) ∧ Below w.heap.size w w' := by
  have hb : Below w.heap.size w (w.alloc (.cells #[.string f, .string t, .string ⟨#[99]⟩, .int .i64 n] 31)) := (Below.refl _ _).alloc (Nat.le_refl _) _
  go_enter Try.func23, Try.ntmps23
  go_wp2
  (try simp only [Exit.inBlock, Exit.then]); refine bodyPost_ret (results_cell_row rfl _ _ w.heap.size 31 #[.string f, .string t, .string ⟨#[99]⟩, .int .i64 n] (0, 0) _ rfl (blk_new _ _) Try.underlying31 rfl size_trd) rfl ?_
  exact ⟨rfl, hb⟩
theorem cycle_n (a : Option Addr) (c n m : Nat) (l : List Tr) (r : List Nat) (e0 : Int) (w : World) (hl : l.length = n) (hr0 : r.length = m) (hn : n ≤ 1000) (hZ : (l.all fun x => decide (x.fr.size ≤ 1000) && decide (x.to_.size ≤ 1000) && decide (x.con.size ≤ 1000)) = true) (hA : AtL w 4 trc a l) (hr : CycR l r e0) :
    Calls Try.prog 18 #[.slice a n c] w fun e w' => ∃ a' c', e = .returned (.tuple #[.slice a' m c', .int .i64 e0]) ∧ AtL w' 1 ic a' (il r) ∧ Below w.heap.size w w' := by
  subst hl
  subst hr0
  refine (cycle_any a c l r e0 w hn (szT_dec hZ) hA hr).mono ?_
  rintro e w' ⟨a', c', rfl, ho, hb⟩
  exact ⟨a', c', rfl, (ho.sl ic_len).1, hb⟩
theorem net_n (a : Option Addr) (c n : Nat) (l : List Tr) (p t : ByteArray) (v e0 : Int) (w : World) (hl : l.length = n) (hn : n ≤ 1000) (hZ : (l.all fun x => decide (x.fr.size ≤ 1000) && decide (x.to_.size ≤ 1000) && decide (x.con.size ≤ 1000)) = true) (hp : p.size ≤ 1000) (ht : t.size ≤ 1000) (hA : AtL w 4 trc a l) (h : netF l p t = v ∧ netE l p t = e0) :
    Calls Try.prog 14 #[.slice a n c, .string p, .string t] w fun e w' => e = .returned (.tuple #[.int .i64 v, .int .i64 e0]) ∧ Below w.heap.size w w' := by
  subst hl
  rw [← h.1, ← h.2]
  exact net_any a c l p t w (by omega) (szT_dec hZ) (by unfold maxLen; omega) (by unfold maxLen; omega) hA
theorem gross_n (a : Option Addr) (c n : Nat) (l : List Tr) (v e0 : Int) (w : World) (hl : l.length = n) (hn : n ≤ 1000) (hZ : SzT l) (hA : AtL w 4 trc a l) (h : groF l = v ∧ chkE l = e0) :
    Calls Try.prog 16 #[.slice a n c] w fun e w' => e = .returned (.tuple #[.int .i64 v, .int .i64 e0]) ∧ Below w.heap.size w w' := by
  subst hl
  rw [← h.1, ← h.2]
  exact gross_any a c l w (by omega) hZ hA
theorem compress_n (a : Option Addr) (c n m : Nat) (l out : List Tr) (e0 : Int) (w : World) (hl : l.length = n) (ho : out.length = m) (hn : n ≤ 1000) (hZ : (l.all fun x => decide (x.fr.size ≤ 1000) && decide (x.to_.size ≤ 1000) && decide (x.con.size ≤ 1000)) = true) (hA : AtL w 4 trc a l) (hr : ComR l out e0) :
    Calls Try.prog 11 #[.slice a n c] w fun e w' => ∃ a' c', e = .returned (.tuple #[.slice a' m c', .int .i64 e0]) ∧ AtL w' 4 trc a' out ∧ Below w.heap.size w w' := by
  subst hl
  subst ho
  refine (compress_any a c l out e0 w hn (szT_dec hZ) hA hr).mono ?_
  rintro e w' ⟨a', c', rfl, ho, hb⟩
  exact ⟨a', c', rfl, (ho.sl trc_len).1, hb⟩
theorem check_n (a : Option Addr) (c n : Nat) (l : List Tr) (e0 : Int) (w : World) (hl : l.length = n) (hn : n ≤ 1000) (hZ : (l.all fun x => decide (x.fr.size ≤ 1000) && decide (x.to_.size ≤ 1000) && decide (x.con.size ≤ 1000)) = true) (hA : AtL w 4 trc a l) (h : chkE l = e0) :
    Calls Try.prog 21 #[.slice a n c] w fun e w' => e = .returned (.int .i64 e0) ∧ Below w.heap.size w w' := by
  subst hl
  rw [← h]
  exact check_any a c l w (by omega) (szT_dec hZ) hA
theorem sints_n (a b : Option Addr) (c d n m : Nat) (xs : List Int) (w : World) (hn : xs.length = n) (hm : xs.length = m) (hx : n ≤ 1000) (hA : AtL w 1 ic a xs) (hB : AtL w 1 ic b xs) :
    Calls Try.prog 20 #[.slice a n c, .slice b m d] w fun e w' => e = .returned (.bool true) ∧ Below w.heap.size w w' := by
  refine (sints_any a b c d xs xs n m w hn hm (by omega) hA hB).mono ?_
  rintro e w' ⟨rfl, hb⟩
  exact ⟨by rw [decide_eq_true rfl], hb⟩
set_option maxRecDepth 100000 in
set_option maxHeartbeats 1000000 in
theorem gives_any (a b : Option Addr) (c d n m : Nat) (l out : List Tr) (w : World) (hl : l.length = n) (ho : out.length = m) (hn : n ≤ 1000) (hm : m ≤ 1000) (hZ : (l.all fun x => decide (x.fr.size ≤ 1000) && decide (x.to_.size ≤ 1000) && decide (x.con.size ≤ 1000)) = true) (hA : AtL w 4 trc a l) (hB : AtL w 4 trc b out) (hr : ComR l out 0) :
    Calls Try.prog 25 #[.slice a n c, .slice b m d] w fun e w' => e = .returned (.bool true) ∧ Below w.heap.size w w' := by
  have HC := Lib.hid (compress_n a c n m l out 0 w hl ho hn hZ hA hr)
  have HB := Lib.hid hB
  have HO := Lib.hid ho
  clear hA hB ho hZ hr hl
  go_enter Try.func25, Try.ntmps25
  go_wp2_with fail
  refine HC.out.mono ?_
  rintro e w1 ⟨a', c', rfl, ha, hb⟩
  have HB1 := Lib.hid hb
  have HS := Lib.hid (same_any a' b c' d out out m m w1 HO.out HO.out (by omega) ha (HB.out.below hb))
  clear ha hb HC HB
  go_wp2_with fail
  refine HS.out.mono ?_
  rintro e w2 ⟨rfl, hb⟩
  have HB2 := Lib.hid (bt HB1.out hb (Nat.le_refl _))
  clear hb HS
  go_wp2
  go_ret
  exact ⟨rfl, HB2.out⟩
end Go.Proofs.Ytpphiohppgphnaa.Cs
