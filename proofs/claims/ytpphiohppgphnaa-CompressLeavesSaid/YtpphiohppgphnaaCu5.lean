/-
  Compress: what back keeps in memory: its boxes, the parties seen, the queue, the trades of each way.
-/
import Derived.Test.YtpphiohppgphnaaCu4
namespace Go.Proofs.Ytpphiohppgphnaa.Cs
open Go.RowKit Go.Proofs.Ytpphiohppgphnaa Go.Proofs.Ytpphiohppgphnaa.Ls Go.Proofs.Ytpphiohppgphnaa.Kb Go.Proofs.Ytpphiohppgphnaa.Cz
open Go.Proofs.Ytpphiohppgphnaa.Nm hiding ret_bool ret_int hb'

theorem own_blk {α : Type} {w : World} {B : Nat} {T T' : TypeId} {k : Nat} {f : α → List Value} {v : Value} {xs : List α} {b : Nat} {cs : Array Value} (h : OwnL w B T k f v xs) (h' : w.heap[b]? = some (.cells cs T' (0, 0))) (hT : T ≠ T') : v.ownBlock ≠ some b := by
  rcases h.2 with ⟨rfl, _⟩ | ⟨g, cap, cur, rfl, _, hg, _⟩
  · intro e; cases e
  · intro e
    cases e
    rw [hg] at h'
    cases h'
    exact hT rfl
theorem own_blk2 {α β : Type} {w : World} {B B' : Nat} {T T' : TypeId} {k k' : Nat} {f : α → List Value} {f' : β → List Value} {v v' : Value} {xs : List α} {ys : List β} (h : OwnL w B T k f v xs) (h' : OwnL w B' T' k' f' v' ys) (hT : T ≠ T') : v'.ownBlock ≠ none → v.ownBlock ≠ v'.ownBlock := by
  rcases h'.2 with ⟨rfl, _⟩ | ⟨g, cap, cur, rfl, _, hg, _⟩
  · intro e; exact absurd rfl e
  · intro _
    exact own_blk h hg hT
theorem own_off {α β : Type} {w : World} {B B' : Nat} {T T' : TypeId} {k k' : Nat} {f : α → List Value} {f' : β → List Value} {v v' : Value} {xs : List α} {ys : List β} (h : OwnL w B T k f v xs) (h' : OffL w B' T' k' f' v' ys) (hT : T ≠ T') : v.ownBlock ≠ none → v.ownBlock ≠ v'.ownBlock := by
  rcases h' with ⟨rfl, _⟩ | ⟨g, o, cap, cur, rfl, _, hg, _⟩
  · intro e e2; exact e e2
  · intro _
    exact own_blk h hg hT
theorem off_in {α : Type} {w : World} {B : Nat} {T : TypeId} {k : Nat} {f : α → List Value} {v : Value} {xs : List α} (h : OffL w B T k f v xs) (b : Nat) (e : v.ownBlock = some b) : ∃ cs, w.heap[b]? = some (.cells cs T (0, 0)) := by
  rcases h with ⟨rfl, _⟩ | ⟨g, o, cap, cur, rfl, _, hg, _⟩
  · cases e
  · cases e; exact ⟨_, hg⟩
theorem own_in {α : Type} {w : World} {B : Nat} {T : TypeId} {k : Nat} {f : α → List Value} {v : Value} {xs : List α} (h : OwnL w B T k f v xs) (b : Nat) (e : v.ownBlock = some b) : ∃ cs, w.heap[b]? = some (.cells cs T (0, 0)) := by
  rcases h.2 with ⟨rfl, _⟩ | ⟨g, cap, cur, rfl, _, hg, _⟩
  · cases e
  · cases e; exact ⟨_, hg⟩
/-- all blocks but those of R stay as they were -/
structure KeptR (v w : World) (R : Nat → Prop) : Prop where
  os : w.os = v.os
  tape : w.tape = v.tape
  output : w.output = v.output
  size : v.heap.size ≤ w.heap.size
  block : ∀ b, b < v.heap.size → ¬ R b → w.heap[b]? = v.heap[b]?
theorem KeptR.of_below {v w : World} (h : Below v.heap.size v w) : KeptR v w fun _ => False := ⟨h.os, h.tape, h.output, h.size, fun b hb _ => h.block b hb⟩
theorem KeptR.of_two {v w : World} {r1 r2 : Option Nat} (h : Kept2 v w r1 r2) : KeptR v w fun b => some b = r1 ∨ some b = r2 := ⟨h.os, h.tape, h.output, h.size, fun b hb hn => h.block b hb (fun e => hn (.inl e)) (fun e => hn (.inr e))⟩
theorem KeptR.of_grown {v w : World} {r : Option Nat} (h : v.grownBy w r) : KeptR v w fun b => some b = r := ⟨h.os, h.tape, h.output, h.size, fun b hb hn => h.block b hb hn⟩
theorem KeptR.own {α : Type} {v w : World} {R : Nat → Prop} {B : Nat} {T : TypeId} {k : Nat} {f : α → List Value} {u : Value} {xs : List α} (h : KeptR v w R) (ho : OwnL v B T k f u xs) (hr : ∀ b, u.ownBlock = some b → ¬ R b) : OwnL w B T k f u xs := by
  rcases ho with ⟨h0, h1⟩
  refine ⟨h0, ?_⟩
  rcases h1 with h1 | ⟨g, cap, cur, rfl, a1, a2, a3⟩
  · exact .inl h1
  · exact .inr ⟨g, cap, cur, rfl, a1, by rw [h.block g (blk_lt a2) (hr g rfl), a2], a3⟩
theorem KeptR.off {α : Type} {v w : World} {R : Nat → Prop} {B : Nat} {T : TypeId} {k : Nat} {f : α → List Value} {u : Value} {xs : List α} (h : KeptR v w R) (ho : OffL v B T k f u xs) (hr : ∀ b, u.ownBlock = some b → ¬ R b) : OffL w B T k f u xs := by
  rcases ho with h1 | ⟨g, o, cap, cur, rfl, a1, a2, a3⟩
  · exact .inl h1
  · exact .inr ⟨g, o, cap, cur, rfl, a1, by rw [h.block g (blk_lt a2) (hr g rfl), a2], a3⟩
theorem KeptR.blk {v w : World} {R : Nat → Prop} (h : KeptR v w R) {b : Nat} {o : Obj} (hb : v.heap[b]? = some o) (hr : ¬ R b) : w.heap[b]? = some o := by rw [h.block b (blk_lt hb) hr, hb]
theorem KeptR.below {w0 v w : World} {R : Nat → Prop} (h : KeptR v w R) (hb : Below w0.heap.size w0 v) (hr : ∀ b, R b → w0.heap.size ≤ b) : Below w0.heap.size w0 w :=
  ⟨h.os.trans hb.os, h.tape.trans hb.tape, h.output.trans hb.output, Nat.le_trans hb.size h.size, fun b hb1 => (h.block b (Nat.lt_of_lt_of_le hb1 hb.size) (fun e => by have := hr b e; omega)).trans (hb.block b hb1)⟩

/-- what back keeps in memory; av: blocks of others, which neither the queue nor the parties lie in -/
structure BkM (w0 : World) (b0 SB QB : Nat) (a : Option Addr) (n cL i : Nat) (rv : Value) (av : List Nat) (seen : List ByteArray) (Q : List (Wy × List Nat)) (v : World) : Prop where
  bel : Below w0.heap.size w0 v
  base : w0.heap.size ≤ b0
  l2 : v.heap[b0]? = some (.cells #[.slice a n cL] 22 (0, 0))
  s3 : v.heap[b0 + 1]? = some (.cells #[.int .i64 i] 3 (0, 0))
  r4 : v.heap[b0 + 2]? = some (.cells #[rv] 38 (0, 0))
  sn : ∃ sa c, v.heap[SB]? = some (.cells #[.slice sa seen.length c] 59 (0, 0)) ∧ OwnL v b0 9 1 sc (.slice sa seen.length c) seen ∧ ∀ b ∈ av, (Value.slice sa seen.length c).ownBlock ≠ some b
  qu : ∃ qa c, v.heap[QB]? = some (.cells #[.slice qa Q.length c] 67 (0, 0)) ∧ OffL v b0 70 2 wyc (.slice qa Q.length c) (Q.map Prod.fst) ∧ ∀ b ∈ av, (Value.slice qa Q.length c).ownBlock ≠ some b
  tr : ∀ x ∈ Q, OwnL v b0 3 1 ic (.slice x.1.a x.1.n x.1.c) (il x.2) ∧ x.1.n = x.2.length
section
variable {w0 : World} {b0 SB QB : Nat} {a : Option Addr} {n cL i : Nat} {rv : Value} {av : List Nat} {seen : List ByteArray} {Q : List (Wy × List Nat)} {v w : World}
/-- nothing of it is written -/
theorem BkM.kept {R : Nat → Prop} (h : BkM w0 b0 SB QB a n cL i rv av seen Q v) (hk : KeptR v w R) (hr : ∀ b, R b → ∀ o, v.heap[b]? = some o → o.isCells = false ∧ b0 ≤ b) : BkM w0 b0 SB QB a n cL i rv av seen Q w := by
  have hn : ∀ {b : Nat} {cs : Array Value} {T : TypeId}, v.heap[b]? = some (.cells cs T (0, 0)) → ¬ R b := fun hb e => by have := (hr _ e _ hb).1; cases this
  obtain ⟨sa, c, s1, s2, s3⟩ := h.sn
  obtain ⟨qa, d, q1, q2, q3⟩ := h.qu
  have own : ∀ {α : Type} {B : Nat} {T : TypeId} {k : Nat} {f : α → List Value} {u : Value} {xs : List α}, OwnL v B T k f u xs → ∀ b, u.ownBlock = some b → ¬ R b := fun ho b e => by
    obtain ⟨cs, hc⟩ := own_in ho b e
    exact hn hc
  refine ⟨?_, h.base, hk.blk h.l2 (hn h.l2), hk.blk h.s3 (hn h.s3), hk.blk h.r4 (hn h.r4), ⟨sa, c, hk.blk s1 (hn s1), hk.own s2 (own s2), s3⟩, ⟨qa, d, hk.blk q1 (hn q1), hk.off q2 (fun b e => ?_), q3⟩, fun x hx => ⟨hk.own (h.tr x hx).1 (own (h.tr x hx).1), (h.tr x hx).2⟩⟩
  · refine ⟨hk.os.trans h.bel.os, hk.tape.trans h.bel.tape, hk.output.trans h.bel.output, Nat.le_trans h.bel.size hk.size, fun b hb1 => ?_⟩
    have hbv : b < v.heap.size := Nat.lt_of_lt_of_le hb1 h.bel.size
    rw [hk.block b hbv (fun e => ?_)]
    · exact h.bel.block b hb1
    · have := (hr b e _ (Array.getElem?_eq_getElem hbv)).2
      have := h.base
      omega
  · obtain ⟨cs, hc⟩ := off_in q2 b e
    exact hn hc
theorem BkM.below (h : BkM w0 b0 SB QB a n cL i rv av seen Q v) (hb : Below v.heap.size v w) : BkM w0 b0 SB QB a n cL i rv av seen Q w := h.kept (KeptR.of_below hb) (fun _ e => e.elim)
/-- blocks by their types -/
theorem blk_ne {v : World} {b b' : Nat} {cs cs' : Array Value} {T T' : TypeId} (h : v.heap[b]? = some (.cells cs T (0, 0))) (h' : v.heap[b']? = some (.cells cs' T' (0, 0))) (hT : T ≠ T') : b ≠ b' := fun e => by
  subst e
  rw [h] at h'
  cases h'
  exact hT rfl
/-- the queue is another one; its box and its block are all that is written -/
theorem BkM.queue {Q' : List (Wy × List Nat)} {qa qa' : Option Addr} {c c' : Nat} {R : Nat → Prop} (h : BkM w0 b0 SB QB a n cL i rv av seen Q v) (hQ : v.heap[QB]? = some (.cells #[.slice qa Q.length c] 67 (0, 0)))
    (hO : OffL v b0 70 2 wyc (.slice qa Q.length c) (Q.map Prod.fst)) (hk : KeptR v w R) (hR : ∀ b, R b → b = QB ∨ (Value.slice qa Q.length c).ownBlock = some b) (hb0 : b0 ≤ QB)
    (hQ' : w.heap[QB]? = some (.cells #[.slice qa' Q'.length c'] 67 (0, 0))) (hO' : OffL w b0 70 2 wyc (.slice qa' Q'.length c') (Q'.map Prod.fst)) (hav : ∀ b ∈ av, (Value.slice qa' Q'.length c').ownBlock ≠ some b)
    (htr : ∀ x ∈ Q', x ∈ Q ∨ (OwnL w b0 3 1 ic (.slice x.1.a x.1.n x.1.c) (il x.2) ∧ x.1.n = x.2.length)) :
    BkM w0 b0 SB QB a n cL i rv av seen Q' w ∧ ∀ {α : Type} {B k : Nat} {f : α → List Value} {u : Value} {xs : List α}, OwnL v B 3 k f u xs → OwnL w B 3 k f u xs := by
  have hn : ∀ {b : Nat} {cs : Array Value} {T : TypeId}, v.heap[b]? = some (.cells cs T (0, 0)) → T ≠ 67 → T ≠ 70 → ¬ R b := fun hb t1 t2 e => by
    rcases hR _ e with e | e
    · subst e
      exact blk_ne hb hQ t1 rfl
    · obtain ⟨cs, hc⟩ := off_in hO _ e
      exact blk_ne hb hc t2 rfl
  have own : ∀ {α : Type} {B : Nat} {T : TypeId} {k : Nat} {f : α → List Value} {u : Value} {xs : List α}, OwnL v B T k f u xs → T ≠ 67 → T ≠ 70 → ∀ b, u.ownBlock = some b → ¬ R b := fun ho t1 t2 b e => by
    obtain ⟨cs, hc⟩ := own_in ho b e
    exact hn hc t1 t2
  obtain ⟨sa, d, s1, s2, s3⟩ := h.sn
  refine ⟨⟨hk.below h.bel (fun b e => ?_), h.base, hk.blk h.l2 (hn h.l2 (by decide) (by decide)), hk.blk h.s3 (hn h.s3 (by decide) (by decide)), hk.blk h.r4 (hn h.r4 (by decide) (by decide)), ⟨sa, d, hk.blk s1 (hn s1 (by decide) (by decide)), hk.own s2 (own s2 (by decide) (by decide)), s3⟩, ⟨qa', c', hQ', hO', hav⟩, fun x hx => ?_⟩, fun ho => hk.own ho (own ho (by decide) (by decide))⟩
  · have := h.base
    rcases hR b e with e | e
    · omega
    · have := (hO.lt b e).1
      omega
  · rcases htr x hx with e | e
    · exact ⟨hk.own (h.tr x e).1 (own (h.tr x e).1 (by decide) (by decide)), (h.tr x e).2⟩
    · exact e
/-- a party more is known: an append, then the box is written -/
theorem BkM.known {sa : Option Addr} {c g c' : Nat} {x : ByteArray} (h : BkM w0 b0 SB QB a n cL i rv av seen Q v) (hS : v.heap[SB]? = some (.cells #[.slice sa seen.length c] 59 (0, 0))) (hO : OwnL v b0 9 1 sc (.slice sa seen.length c) seen) (hb0 : b0 ≤ SB)
    (hav : ∀ b ∈ av, (Value.slice sa seen.length c).ownBlock ≠ some b ∧ b < v.heap.size) (hg : v.grownBy w (Value.slice sa seen.length c).ownBlock) (hO' : OwnL w b0 9 1 sc (.slice (some ⟨g, 0, none⟩) (seen.length + 1) c') (seen ++ [x])) (hat : (Value.slice sa seen.length c).ownBlock = some g ∨ v.heap.size ≤ g) :
    BkM w0 b0 SB QB a n cL i rv av (seen ++ [x]) Q (w.setCell ⟨SB, 0, none⟩ (.slice (some ⟨g, 0, none⟩) (seen.length + 1) c')) ∧ KeptR v (w.setCell ⟨SB, 0, none⟩ (.slice (some ⟨g, 0, none⟩) (seen.length + 1) c')) (fun b => b = SB ∨ (Value.slice sa seen.length c).ownBlock = some b) ∧
    ∀ {α : Type} {B k : Nat} {f : α → List Value} {u : Value} {xs : List α}, OwnL v B 3 k f u xs → OwnL (w.setCell ⟨SB, 0, none⟩ (.slice (some ⟨g, 0, none⟩) (seen.length + 1) c')) B 3 k f u xs := by
  have hSw : w.heap[SB]? = some (.cells #[.slice sa seen.length c] 59 (0, 0)) := by rw [hg.block SB (blk_lt hS) (fun e => own_blk hO hS (by decide) e.symm), hS]
  have hst : w.grownBy (w.setCell ⟨SB, 0, none⟩ (.slice (some ⟨g, 0, none⟩) (seen.length + 1) c')) (some SB) := ⟨rfl, rfl, rfl, by simp [World.setCell], fun k _ hk => Below.heap_setCell _ _ _ k (fun e => hk (by rw [e]))⟩
  have hS2 : (w.setCell ⟨SB, 0, none⟩ (.slice (some ⟨g, 0, none⟩) (seen.length + 1) c')).heap[SB]? = some (.cells #[.slice (some ⟨g, 0, none⟩) (seen.length + 1) c'] 59 (0, 0)) := heap_setCells [.slice (some ⟨g, 0, none⟩) (seen.length + 1) c'] w #[.slice sa seen.length c] 0 hSw
  have hO2 : OwnL (w.setCell ⟨SB, 0, none⟩ (.slice (some ⟨g, 0, none⟩) (seen.length + 1) c')) b0 9 1 sc (.slice (some ⟨g, 0, none⟩) (seen.length + 1) c') (seen ++ [x]) := hO'.far (fun e => own_blk hO' hSw (by decide) e) _
  generalize w.setCell _ _ = w2 at *
  have hk : KeptR v w2 (fun b => b = SB ∨ (Value.slice sa seen.length c).ownBlock = some b) := ⟨hst.os.trans hg.os, hst.tape.trans hg.tape, hst.output.trans hg.output, Nat.le_trans hg.size hst.size, fun b hb hn => by
    rw [hst.block b (Nat.lt_of_lt_of_le hb hg.size) (fun e => hn (.inl (Option.some.inj e)))]
    exact hg.block b hb (fun e => hn (.inr e.symm))⟩
  have hn : ∀ {b : Nat} {cs : Array Value} {T : TypeId}, v.heap[b]? = some (.cells cs T (0, 0)) → T ≠ 59 → T ≠ 9 → ¬ (b = SB ∨ (Value.slice sa seen.length c).ownBlock = some b) := fun hb t1 t2 e => by
    rcases e with e | e
    · subst e
      exact blk_ne hb hS t1 rfl
    · obtain ⟨cs, hc⟩ := own_in hO _ e
      exact blk_ne hb hc t2 rfl
  have own : ∀ {α : Type} {B : Nat} {T : TypeId} {k : Nat} {f : α → List Value} {u : Value} {xs : List α}, OwnL v B T k f u xs → T ≠ 59 → T ≠ 9 → ∀ b, u.ownBlock = some b → ¬ (b = SB ∨ (Value.slice sa seen.length c).ownBlock = some b) := fun ho t1 t2 b e => by
    obtain ⟨cs, hc⟩ := own_in ho b e
    exact hn hc t1 t2
  obtain ⟨qa, d, q1, q2, q3⟩ := h.qu
  refine ⟨⟨hk.below h.bel (fun b e => ?_), h.base, hk.blk h.l2 (hn h.l2 (by decide) (by decide)), hk.blk h.s3 (hn h.s3 (by decide) (by decide)), hk.blk h.r4 (hn h.r4 (by decide) (by decide)), ⟨some ⟨g, 0, none⟩, c', by rw [List.length_append]; exact hS2, by rw [List.length_append]; exact hO2, fun b hb e => ?_⟩, ⟨qa, d, hk.blk q1 (hn q1 (by decide) (by decide)), hk.off q2 (fun b e => ?_), q3⟩, fun x hx => ⟨hk.own (h.tr x hx).1 (own (h.tr x hx).1 (by decide) (by decide)), (h.tr x hx).2⟩⟩, hk, fun ho => hk.own ho (own ho (by decide) (by decide))⟩
  · have := h.base
    rcases e with e | e
    · omega
    · have := (hO.lt b e).1
      omega
  · cases e
    obtain ⟨h1, h2⟩ := hav _ hb
    rcases hat with e | e
    · exact h1 e
    · exact absurd h2 (Nat.not_lt.2 e)
  · obtain ⟨cs, hc⟩ := off_in q2 b e
    exact hn hc (by decide) (by decide)
/-- the result's cell is written -/
theorem BkM.result (h : BkM w0 b0 SB QB a n cL i rv av seen Q v) (u : Value) : (v.setCell ⟨b0 + 2, 0, none⟩ u).heap[b0 + 2]? = some (.cells #[u] 38 (0, 0)) ∧ Below w0.heap.size w0 (v.setCell ⟨b0 + 2, 0, none⟩ u) ∧ KeptR v (v.setCell ⟨b0 + 2, 0, none⟩ u) (fun b => b = b0 + 2) ∧
    ∀ {α : Type} {B k : Nat} {f : α → List Value} {z : Value} {xs : List α}, OwnL v B 3 k f z xs → OwnL (v.setCell ⟨b0 + 2, 0, none⟩ u) B 3 k f z xs := by
  have hk : KeptR v (v.setCell ⟨b0 + 2, 0, none⟩ u) (fun b => b = b0 + 2) := ⟨rfl, rfl, rfl, by simp [World.setCell], fun k _ hk => Below.heap_setCell _ _ _ k (fun e => hk (by rw [e]))⟩
  refine ⟨heap_setCells [u] v #[rv] 0 h.r4, hk.below h.bel (fun b e => by have := h.base; omega), hk, fun ho => ho.far (fun e => own_blk ho h.r4 (by decide) e) _⟩
end
end Go.Proofs.Ytpphiohppgphnaa.Cs
