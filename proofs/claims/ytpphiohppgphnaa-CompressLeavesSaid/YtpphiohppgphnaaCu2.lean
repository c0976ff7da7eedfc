/-
  Compress: the queue's push and pop.
-/
import Derived.Test.YtpphiohppgphnaaCu1
import Derived.Test.YtpphiohppgphnaaLs6
import Derived.Shelf.RegionOpenPlain
import Derived.Deep.RegionLaw
namespace Go.Proofs.Ytpphiohppgphnaa.Cs
open Go.RowKit Go.Proofs.Ytpphiohppgphnaa Go.Proofs.Ytpphiohppgphnaa.Ls Go.Proofs.Ytpphiohppgphnaa.Kb Go.Proofs.Ytpphiohppgphnaa.Cz
open Go.Proofs.Ytpphiohppgphnaa.Nm hiding ret_bool ret_int hb'

/-- a way in memory -/
structure Wy where
  p : ByteArray
  a : Option Addr
  n : Nat
  c : Nat
def wyc (x : Wy) : List Value := [.string x.p, .slice x.a x.n x.c]
theorem wyc_len (x : Wy) : (wyc x).length = 2 := rfl
theorem wyc_one (x : Wy) : ∀ u ∈ wyc x, u.oneCell' = true := by simp [wyc, Value.oneCell']
theorem info_way : (Try.prog.info? 70).map (fun i => (i.zero, i.size, i.bytes)) = some (some (.agg #[.string ⟨#[]⟩, .slice none 0 0]), 2, 40) := by kernel_rfl
theorem size_way : (Try.prog.info? 70).map (·.size) = some 2 := by kernel_rfl
/-- all older blocks but two stay as they were -/
structure Kept2 (v w : World) (r1 r2 : Option Nat) : Prop where
  os : w.os = v.os
  tape : w.tape = v.tape
  output : w.output = v.output
  size : v.heap.size ≤ w.heap.size
  block : ∀ b, b < v.heap.size → some b ≠ r1 → some b ≠ r2 → w.heap[b]? = v.heap[b]?
theorem cut_in {p q : Prop} (h : p) (k : p → q) : q := k h
theorem blk_at (w : World) (o : Obj) {g : Nat} (hg : g = w.heap.size) : (w.alloc o).heap[g]? = some o := by rw [hg]; exact blk_new w o
theorem blk_drew {w : World} {b : Nat} {o : Obj} (h : w.heap[b]? = some o) : w.drew.heap[b]? = some o := h
theorem below_al {w0 w : World} (h : Below w0.heap.size w0 w) (o : Obj) : Below w0.heap.size w0 (w.alloc o) := h.alloc h.size o
/-- behind the append: the queue's box is written -/
theorem push_fin {v wa w9 : World} {Q B n g o c : Nat} {qv : Value} {q : List Wy} (hb : Below v.heap.size v wa) (hQ : wa.heap[Q]? = some (.cells #[qv] 67 (0, 0)))
    (ho : OffL w9 B 70 2 wyc (.slice (some ⟨g, o, none⟩) n c) q) (hg : wa.grownBy w9 qv.ownBlock) (hne : qv.ownBlock ≠ some Q) (hat : qv.ownBlock = some g ∨ g = wa.heap.size) :
    ∃ g' o' c', (Value.slice (some ⟨g, o, none⟩) n c = .slice (some ⟨g', o', none⟩) n c') ∧ (w9.setCell ⟨Q, 0, none⟩ (.slice (some ⟨g, o, none⟩) n c)).heap[Q]? = some (.cells #[.slice (some ⟨g', o', none⟩) n c'] 67 (0, 0)) ∧
      OffL (w9.setCell ⟨Q, 0, none⟩ (.slice (some ⟨g, o, none⟩) n c)) B 70 2 wyc (.slice (some ⟨g', o', none⟩) n c') q ∧ Kept2 v (w9.setCell ⟨Q, 0, none⟩ (.slice (some ⟨g, o, none⟩) n c)) (some Q) qv.ownBlock ∧ (qv.ownBlock = some g' ∨ v.heap.size ≤ g') := by
  have hQ9 : w9.heap[Q]? = some (.cells #[qv] 67 (0, 0)) := (hg.block Q (blk_lt hQ) (fun e => hne e.symm)).trans hQ
  have hst : World.grownBy w9 (w9.setCell ⟨Q, 0, none⟩ (.slice (some ⟨g, o, none⟩) n c)) (some Q) := ⟨rfl, rfl, rfl, by simp [World.setCell], fun k _ hk => Below.heap_setCell _ _ _ k (fun e => hk (by rw [e]))⟩
  have ho' := ho
  refine ⟨g, o, c, rfl, ?_, ho'.kept hst (.inl (ho.blk hQ9 (by decide))), ?_, hat.imp id (fun e => by rw [e]; exact hb.size)⟩
  · have := heap_setCells [.slice (some ⟨g, o, none⟩) n c] w9 #[qv] 0 (show w9.heap[Q]? = _ from hQ9)
    exact this
  · exact ⟨(hst.os.trans (hg.os.trans hb.os)), (hst.tape.trans (hg.tape.trans hb.tape)), (hst.output.trans (hg.output.trans hb.output)), Nat.le_trans hb.size (Nat.le_trans hg.size hst.size), fun b hb1 h1 h2 => by
      rw [hst.block b (Nat.lt_of_lt_of_le hb1 (Nat.le_trans hb.size hg.size)) h1]
      exact (hg.block b (Nat.lt_of_lt_of_le hb1 hb.size) h2).trans (hb.block b hb1)⟩
set_option maxRecDepth 100000 in
set_option maxHeartbeats 4000000 in
theorem push_any (Q B : Nat) (qv : Value) (q : List Wy) (x : Wy) (v : World) (hQ : v.heap[Q]? = some (.cells #[qv] 67 (0, 0))) (hO : OffL v B 70 2 wyc qv q) (hn : q.length ≤ 1000000) (hB : B ≤ v.heap.size) :
    Calls Try.prog 43 #[.pointer (some ⟨Q, 0, none⟩), .agg #[.string x.p, .slice x.a x.n x.c]] v fun e w' => e = .returned (.tuple #[]) ∧ ∃ g o c, w'.heap[Q]? = some (.cells #[.slice (some ⟨g, o, none⟩) (q.length + 1) c] 67 (0, 0)) ∧ OffL w' B 70 2 wyc (.slice (some ⟨g, o, none⟩) (q.length + 1) c) (q ++ [x]) ∧ Kept2 v w' (some Q) qv.ownBlock ∧ (qv.ownBlock = some g ∨ v.heap.size ≤ g) := by
  obtain ⟨qa, qc, hqv⟩ := hO.len
  obtain ⟨x1, x2, x3, x4⟩ := x
  dsimp only
  have HQ := Lib.hid hQ
  have HO := Lib.hid hO
  have HNB := Lib.hid (hO.blk hQ (by decide))
  have hQl := blk_lt hQ
  rw [hqv] at HQ HO HNB ⊢
  clear hQ hO hqv
  go_enter Try.func43, Try.ntmps43
  go_wp2_with fail
  have HX1 := Lib.hid (blk_new v (.cells #[.string x1, .slice x2 x3 x4] 70))
  have HB1 := Lib.hid ((Below.refl v.heap.size v).alloc (Nat.le_refl _) (.cells #[.string x1, .slice x2 x3 x4] 70))
  obtain ⟨X, hX⟩ : ∃ X, X = v.heap.size := ⟨_, rfl⟩
  rw [← hX] at HX1 ⊢
  have HXX := Lib.hid hX
  have hQX : X ≠ Q := by omega
  have hv1 : (v.alloc (.cells #[.string x1, .slice x2 x3 x4] 70)).heap.size = X + 1 := by rw [World.size_alloc, hX]
  clear hX
  generalize v.alloc _ = v1 at HX1 HB1 hv1 ⊢
  have HQ1 := Lib.hid (blk_keep HQ.out HB1.out)
  have HO1 := Lib.hid (HO.out.below HB1.out)
  have c0 := cell_of HQ1.out 0 _ rfl
  have f0 := frozen_of HQ1.out 0
  have c1 := cell_of HX1.out 0 _ rfl
  have c2 := cell_of HX1.out 1 _ rfl
  have HE : Hid (∀ wx, Below v1.heap.size v1 wx → OffL wx B 70 2 wyc (.slice qa q.length qc) q ∧ Below v.heap.size v wx ∧ B ≤ wx.heap.size ∧ v1.heap.size ≤ wx.heap.size) := Lib.hid fun wx hx => ⟨HO1.out.below hx, bt HB1.out hx (Nat.le_refl _), by have := hx.size; have := HB1.out.size; omega, hx.size⟩
  have hX1l := blk_lt HX1.out
  have HNX := Lib.hid (show (Value.slice qa q.length qc).ownBlock ≠ some X from fun e => by have := (HO.out.lt X e).2; have := HXX.out; omega)
  have hQ2 : X + 1 ≠ Q := by have := HXX.out; omega
  have hX2 : X + 1 ≠ X := by omega
  have hb2 := (Below.refl v1.heap.size v1).alloc (Nat.le_refl _) (.cells #[.string x1, .slice x2 x3 x4] 70)
  have d0 : (v1.alloc (.cells #[.string x1, .slice x2 x3 x4] 70)).cell? ⟨Q, 0, none⟩ = some (.slice qa q.length qc) := keep c0 hb2
  have d1 : (v1.alloc (.cells #[.string x1, .slice x2 x3 x4] 70)).cell? ⟨X, 0, none⟩ = some (.string x1) := keep c1 hb2
  have d2 : (v1.alloc (.cells #[.string x1, .slice x2 x3 x4] 70)).cell? ⟨X, 1, none⟩ = some (.slice x2 x3 x4) := keep c2 hb2
  clear hb2
  go_region_law
    ((refine step_append_off (P := Try.prog) (α := Wy) _ rfl _ _ _ rfl 70 (.agg #[.string ⟨#[]⟩, .slice none 0 0]) 2 40 Try.underlying67 info_way rfl (by decide) B wyc wyc_len wyc_one (.slice qa q.length qc) q (⟨x1, x2, x3, x4⟩ : Wy) (X + 1) #[.string x1, .slice x2 x3 x4] (by rfl) (by rfl) (HE.out _ (by (repeat (first | with_reducible exact Below.refl _ _ | with_reducible refine below_al ?_ _ | with_reducible refine Below.drew ?_)))).1 (by (repeat (first | ((with_reducible refine blk_at _ _ ?_); (first | with_reducible rfl | (simp; done) | exact hv1.symm)) | with_reducible exact HQ1.out | with_reducible refine blk_past _ _ ?_ | with_reducible refine blk_drew ?_))) rfl (by unfold maxLen; omega) (by omega) (HE.out _ (by (repeat (first | with_reducible exact Below.refl _ _ | with_reducible refine below_al ?_ _ | with_reducible refine Below.drew ?_)))).2.2.1 ?_; intro g9 o9 c9 w9 ho9 hg9 hat9; have HF := Lib.hid (push_fin (q := q ++ [⟨x1, x2, x3, x4⟩]) (HE.out _ (by (repeat (first | with_reducible exact Below.refl _ _ | with_reducible refine below_al ?_ _ | with_reducible refine Below.drew ?_)))).2.1 (by (repeat (first | ((with_reducible refine blk_at _ _ ?_); (first | with_reducible rfl | (simp; done) | exact hv1.symm)) | with_reducible exact HQ1.out | with_reducible refine blk_past _ _ ?_ | with_reducible refine blk_drew ?_))) ho9 hg9 HNB.out hat9); have bq : w9.heap[Q]? = some (.cells #[.slice qa q.length qc] 67 (0, 0)) := (hg9.block Q (Nat.lt_of_lt_of_le hQl (HE.out _ (by (repeat (first | with_reducible exact Below.refl _ _ | with_reducible refine below_al ?_ _ | with_reducible refine Below.drew ?_)))).2.1.size) (fun e => HNB.out e.symm)).trans (by (repeat (first | ((with_reducible refine blk_at _ _ ?_); (first | with_reducible rfl | (simp; done) | exact hv1.symm)) | with_reducible exact HQ1.out | with_reducible exact HX1.out | with_reducible refine blk_past _ _ ?_ | with_reducible refine blk_drew ?_))); have bx : w9.heap[X]? = some (.cells #[.string x1, .slice x2 x3 x4] 70 (0, 0)) := (hg9.block X (Nat.lt_of_lt_of_le hX1l (HE.out _ (by (repeat (first | with_reducible exact Below.refl _ _ | with_reducible refine below_al ?_ _ | with_reducible refine Below.drew ?_)))).2.2.2) (fun e => HNX.out e.symm)).trans (by (repeat (first | ((with_reducible refine blk_at _ _ ?_); (first | with_reducible rfl | (simp; done) | exact hv1.symm)) | with_reducible exact HQ1.out | with_reducible exact HX1.out | with_reducible refine blk_past _ _ ?_ | with_reducible refine blk_drew ?_))); have z9 : w9.cell? ⟨Q, 0, none⟩ = some (.slice qa q.length qc) := cell_of bq 0 _ rfl; have f9 := frozen_of bq 0; have z8 : w9.cell? ⟨X, 0, none⟩ = some (.string x1) := cell_of bx 0 _ rfl; have z7 : w9.cell? ⟨X, 1, none⟩ = some (.slice x2 x3 x4) := cell_of bx 1 _ rfl))
  all_goals
    go_end0
    obtain ⟨g', o', c', he, h1, h2, h3⟩ := HF.out
    exact ⟨rfl, g', o', c', h1, h2, h3⟩
/-- behind the pop: the queue's box is written, two boxes are new -/
theorem pop_fin {v : World} {Q B n c : Nat} {qv : Value} {a : Option Addr} {q : List Wy} (hQ : v.heap[Q]? = some (.cells #[qv] 67 (0, 0))) (ho : OffL v B 70 2 wyc (.slice a n c) q) (o1 o2 : Obj) :
    (((v.setCell ⟨Q, 0, none⟩ (.slice a n c)).alloc o1).alloc o2).heap[Q]? = some (.cells #[.slice a n c] 67 (0, 0)) ∧
      OffL (((v.setCell ⟨Q, 0, none⟩ (.slice a n c)).alloc o1).alloc o2) B 70 2 wyc (.slice a n c) q ∧ Kept2 v (((v.setCell ⟨Q, 0, none⟩ (.slice a n c)).alloc o1).alloc o2) (some Q) none := by
  have hst : v.grownBy (v.setCell ⟨Q, 0, none⟩ (.slice a n c)) (some Q) := ⟨rfl, rfl, rfl, by simp [World.setCell], fun k _ hk => Below.heap_setCell _ _ _ k (fun e => hk (by rw [e]))⟩
  have hq := heap_setCells [.slice a n c] v #[qv] 0 hQ
  have hq : (v.setCell ⟨Q, 0, none⟩ (.slice a n c)).heap[Q]? = some (.cells #[.slice a n c] 67 (0, 0)) := hq
  have h1 := ho.kept hst (.inl (ho.blk hQ (by decide)))
  generalize v.setCell _ _ = v1 at *
  have hb : Below v1.heap.size v1 ((v1.alloc o1).alloc o2) := ((Below.refl _ _).alloc (Nat.le_refl _) _).alloc (by simp) _
  refine ⟨blk_keep hq hb, h1.below hb, hb.os.trans hst.os, hb.tape.trans hst.tape, hb.output.trans hst.output, Nat.le_trans hst.size hb.size, fun b hb1 h1 _ => ?_⟩
  rw [hb.block b (Nat.lt_of_lt_of_le hb1 hst.size)]
  exact hst.block b hb1 h1
set_option maxRecDepth 100000 in
set_option maxHeartbeats 4000000 in
theorem pop_any (Q B : Nat) (qv : Value) (q : List Wy) (x : Wy) (v : World) (hQ : v.heap[Q]? = some (.cells #[qv] 67 (0, 0))) (hO : OffL v B 70 2 wyc qv (x :: q)) (hn : q.length ≤ 1000000) :
    Calls Try.prog 44 #[.pointer (some ⟨Q, 0, none⟩)] v fun e w' => e = .returned (.agg #[.string x.p, .slice x.a x.n x.c]) ∧ ∃ a c, w'.heap[Q]? = some (.cells #[.slice a q.length c] 67 (0, 0)) ∧ OffL w' B 70 2 wyc (.slice a q.length c) q ∧ Kept2 v w' (some Q) none := by
  obtain ⟨g, o, cap, rfl, h1, h2, hc, h3, h4⟩ := hO.front wyc_len
  obtain ⟨x1, x2, x3, x4⟩ := x
  have q0 : v.cell? ⟨g, o, none⟩ = some (.string x1) := hc 0 _ rfl
  have q1 : v.cell? ⟨g, o + 1, none⟩ = some (.slice x2 x3 x4) := hc 1 _ rfl
  have c0 : v.cell? ⟨Q, 0, none⟩ = some (.slice (some ⟨g, o, none⟩) (q.length + 1) cap) := cell_of hQ 0 _ rfl
  have f0 := frozen_of hQ 0
  have hQl := blk_lt hQ
  have hgl := World.block_lt_of_cell? _ _ q0
  have hgQ : g ≠ Q := fun e => (hO.blk hQ (by decide)) (by rw [e]; rfl)
  have HQ := Lib.hid hQ
  have H3 := Lib.hid h3
  have H4 := Lib.hid h4
  dsimp only
  clear hQ hO hc h3 h4
  go_enter Try.func44, Try.ntmps44
  go_wp2_with fail
  · have HF := Lib.hid (pop_fin (a := some ⟨g, o, none⟩) (c := 0) HQ.out (by have := H4.out h; rw [h] at this; exact this) (.cells #[.string x1, .slice x2 x3 x4] 70) (.cells #[.string x1, .slice x2 x3 x4] 70))
    (try simp only [Exit.inBlock, Exit.then]); refine bodyPost_ret (results_cell_row rfl _ _ v.heap.size 70 #[.string x1, .slice x2 x3 x4] (0, 0) _ rfl (blk_past _ _ (blk_at _ _ (by simp [World.setCell]))) Try.underlying70 rfl size_way) rfl ?_
    exact ⟨rfl, _, _, HF.out⟩
  · have HF := Lib.hid (pop_fin HQ.out H3.out (.cells #[.string x1, .slice x2 x3 x4] 70) (.cells #[.string x1, .slice x2 x3 x4] 70))
    (try simp only [Exit.inBlock, Exit.then]); refine bodyPost_ret (results_cell_row rfl _ _ v.heap.size 70 #[.string x1, .slice x2 x3 x4] (0, 0) _ rfl (blk_past _ _ (blk_at _ _ (by simp [World.setCell]))) Try.underlying70 rfl size_way) rfl ?_
    exact ⟨rfl, _, _, HF.out⟩
end Go.Proofs.Ytpphiohppgphnaa.Cs
