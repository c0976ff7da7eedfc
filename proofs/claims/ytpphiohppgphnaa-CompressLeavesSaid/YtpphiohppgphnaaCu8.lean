/-
  Compress: what the loop over owed keeps in memory; the marks that it leaves.
-/
import Derived.Test.YtpphiohppgphnaaCu7
import Derived.RangeFuncBox
import Derived.RangeFuncNested
import Derived.Maps.OwnIn
namespace Go.Proofs.Ytpphiohppgphnaa.Cs
open Go.RowKit Go.Proofs.Ytpphiohppgphnaa Go.Proofs.Ytpphiohppgphnaa.Ls Go.Proofs.Ytpphiohppgphnaa.Kb Go.Proofs.Ytpphiohppgphnaa.Cz
open Go.Proofs.Ytpphiohppgphnaa.Nm hiding ret_bool ret_int hb'

/-- a mark among the deferred calls -/
def mark (D : Nat) : Deferred := { target := .collected D, args := #[] }
/-- the marks' blocks -/
structure Mks (b0 S : Nat) (Ds : List Nat) (w : World) : Prop where
  nd : Ds.Nodup
  at_ : ∀ D ∈ Ds, b0 ≤ D ∧ D < S ∧ w.heap[D]? = some (.deferred (some []))
theorem KeptR.trans {u v w : World} {R1 R2 : Nat → Prop} (h : KeptR u v R1) (k : KeptR v w R2) : KeptR u w (fun b => R1 b ∨ R2 b) :=
  ⟨k.os.trans h.os, k.tape.trans h.tape, k.output.trans h.output, Nat.le_trans h.size k.size, fun b hb hn => (k.block b (Nat.lt_of_lt_of_le hb h.size) (fun e => hn (.inr e))).trans (h.block b hb (fun e => hn (.inl e)))⟩
theorem KeptR.mono {u v : World} {R1 R2 : Nat → Prop} (h : KeptR u v R1) (hr : ∀ b, b < u.heap.size → R1 b → R2 b) : KeptR u v R2 :=
  ⟨h.os, h.tape, h.output, h.size, fun b hb hn => h.block b hb (fun e => hn (hr b hb e))⟩
theorem KeptR.refl (u : World) (R : Nat → Prop) : KeptR u u R := ⟨rfl, rfl, rfl, Nat.le_refl _, fun _ _ _ => rfl⟩
theorem kept_putObj (w : World) (D : Nat) (o : Obj) : KeptR w (w.putObj D o) (fun b => b = D) :=
  ⟨rfl, rfl, rfl, by simp [World.putObj], fun b _ hn => World.putObj_heap_other hn⟩
theorem leaves_marks {F : Fence} {n : Nat} {P : Program} {fn : Func} {tmps : Array Value} {R : Ending → World → Prop} {b0 S : Nat} : ∀ (Ds : List Nat) (w : World), Mks b0 S Ds w →
    (∀ w', KeptR w w' (fun b => b ∈ Ds) → LeavesInM F n P fn tmps R [] .returning w') → LeavesInM F n P fn tmps R (Ds.map mark) .returning w := by
  intro Ds
  induction Ds with
  | nil => exact fun w _ h => h w (KeptR.refl _ _)
  | cons D Ds ih =>
    intro w hm h
    have hD := hm.at_ D (List.mem_cons_self ..)
    have hnd := List.nodup_cons.1 hm.nd
    refine ⟨by simp, .inl ⟨D, _, rfl, run_takeDeferred hD.2.2, ih _ ⟨hnd.2, fun E hE => ?_⟩ fun w' hk => h w' ?_⟩⟩
    · have h1 := hm.at_ E (List.mem_cons_of_mem _ hE)
      refine ⟨h1.1, h1.2.1, ?_⟩
      rw [World.putObj_heap_other (fun e => hnd.1 (by rw [← e]; exact hE))]
      exact h1.2.2
    · exact ((kept_putObj w D _).trans hk).mono fun b _ e => by
        rcases e with e | e
        · rw [e]; exact List.mem_cons_self ..
        · exact List.mem_cons_of_mem _ e

/-- what a round may write: cells that lie at or beyond b0, none of the two boxes -/
def Soft (b0 B1 B2 : Nat) (W W' : World) : Prop := ∃ R, KeptR W W' R ∧ ∀ b, R b → (∃ cs T, W.heap[b]? = some (.cells cs T (0, 0))) ∧ b0 ≤ b ∧ b ≠ B1 ∧ b ≠ B2
section
variable {b0 B1 B2 : Nat} {u v w : World}
theorem Soft.of_below (h : Below v.heap.size v w) : Soft b0 B1 B2 v w := ⟨_, KeptR.of_below h, fun _ e => e.elim⟩
theorem Soft.refl (v : World) : Soft b0 B1 B2 v v := Soft.of_below (Below.refl _ _)
theorem Soft.trans (h : Soft b0 B1 B2 u v) (k : Soft b0 B1 B2 v w) : Soft b0 B1 B2 u w := by
  obtain ⟨R1, h1, h2⟩ := h
  obtain ⟨R2, k1, k2⟩ := k
  refine ⟨fun b => (R1 b ∨ R2 b) ∧ b < u.heap.size, (h1.trans k1).mono fun b hb e => ⟨e, hb⟩, ?_⟩
  rintro b ⟨e, hb⟩
  by_cases e1 : R1 b
  · exact h2 b e1
  · obtain ⟨⟨cs, T, hc⟩, hr⟩ := k2 b (e.resolve_left e1)
    exact ⟨⟨cs, T, by rw [← h1.block b hb e1]; exact hc⟩, hr⟩
theorem Soft.keeps (h : Soft b0 B1 B2 u v) (B : Nat) (h1 : B1 < u.heap.size) (h2 : B2 < u.heap.size) (hb0 : b0 ≤ u.heap.size) : KeepsFrom B u v ∧ KpG b0 [B1, B2] u v := by
  obtain ⟨R, hk, hR⟩ := h
  refine ⟨⟨hk.size, fun k o _ hk0 ho => ?_⟩, ⟨hk.size, fun k o hk0 ho => ?_⟩, fun b hb => ?_, hk.os, hk.tape, hk.output, hk.size, fun b hb => ?_⟩
  · rw [hk.block k (blk_lt hk0) (fun e => ?_), hk0]
    obtain ⟨⟨cs, T, hc⟩, _⟩ := hR k e
    rw [hk0] at hc
    cases hc
    cases ho
  · rw [hk.block k (blk_lt hk0) (fun e => ?_), hk0]
    obtain ⟨⟨cs, T, hc⟩, _⟩ := hR k e
    rw [hk0] at hc
    cases hc
    cases ho
  · simp only [List.mem_cons, List.not_mem_nil, or_false] at hb
    rcases hb with rfl | rfl
    · exact hk.block b h1 (fun e => (hR b e).2.2.1 rfl)
    · exact hk.block b h2 (fun e => (hR b e).2.2.2 rfl)
  · exact hk.block b (by omega) (fun e => by have := (hR b e).2.1; omega)
theorem Mks.soft {S : Nat} {Ds : List Nat} (h : Mks b0 S Ds u) (k : Soft b0 B1 B2 u v) : Mks b0 S Ds v := by
  obtain ⟨R, hk, hR⟩ := k
  refine ⟨h.nd, fun D hD => ⟨(h.at_ D hD).1, (h.at_ D hD).2.1, ?_⟩⟩
  have h0 := (h.at_ D hD).2.2
  rw [hk.block D (blk_lt h0) (fun e => ?_), h0]
  obtain ⟨⟨cs, T, hc⟩, _⟩ := hR D e
  rw [h0] at hc
  cases hc
end
theorem Bnd.grow {l : List Tr} {seen : List ByteArray} {Q : List (Wy × List Nat)} {m : Nat} (h : Bnd l seen Q m) {k : Nat} (hk : k < l.length) (hs : inS seen (gt l k).to_ = false) (y : Wy) (ts : List Nat) (ht : ts.length ≤ seen.length + 1) :
    Bnd l (seen ++ [(gt l k).to_]) (Q ++ [(y, ts)]) m := by
  have h1 := fresh_at l seen (gt l k) (gt_mem l k hk) hs
  have h2 := h.qf
  have h3 := h.sf
  refine ⟨by rw [List.length_append, List.length_singleton]; omega, by rw [List.length_append, List.length_singleton]; omega, fun x hx => ?_⟩
  rw [List.length_append, List.length_singleton]
  rcases List.mem_append.1 hx with e | e
  · exact Nat.le_succ_of_le (h.tr x e)
  · rw [List.mem_singleton.1 e]
    exact ht
/-- within the loop over owed -/
structure BkI (w0 : World) (b0 SB QB X B1 B2 S : Nat) (a : Option Addr) (n cL i : Nat) (l : List Tr) (c T : ByteArray) (r : List Nat) (x : Wy) (xt : List Nat) (M : Nat) (Ds pre : List Nat) (seen : List ByteArray) (Q : List (Wy × List Nat)) (W : World) : Prop where
  m : BkM w0 b0 SB QB a n cL i (.slice none 0 0) [B1, B2, X] seen Q W
  inn : InnP l c T r (x.p, xt) pre (wys Q) seen
  bnd : Bnd l seen Q M
  xs : xt.length ≤ seen.length
  way : W.heap[X]? = some (.cells #[.string x.p, .slice x.a x.n x.c] 70 (0, 0))
  tr : OwnL W b0 3 1 ic (.slice x.a x.n x.c) (il xt)
  xn : x.n = xt.length
  mks : Mks b0 S Ds W
  size : S ≤ W.heap.size
  b1 : B1 < S
  b2 : B2 < S
  xb : b0 + 1 + 1 < X ∧ X < S ∧ SB < X ∧ QB < X ∧ X < B1 ∧ X < B2
section
variable {w0 : World} {b0 SB QB X B1 B2 S : Nat} {a : Option Addr} {n cL i : Nat} {l : List Tr} {c T : ByteArray} {r : List Nat} {x : Wy} {xt : List Nat} {M : Nat} {Ds pre : List Nat} {seen : List ByteArray} {Q : List (Wy × List Nat)} {v w : World}
theorem BkI.below (h : BkI w0 b0 SB QB X B1 B2 S a n cL i l c T r x xt M Ds pre seen Q v) (hb : Below v.heap.size v w) : BkI w0 b0 SB QB X B1 B2 S a n cL i l c T r x xt M Ds pre seen Q w :=
  ⟨h.m.below hb, h.inn, h.bnd, h.xs, blk_keep h.way hb, h.tr.below hb, h.xn, h.mks.soft (B1 := B1) (B2 := B2) (Soft.of_below hb), Nat.le_trans h.size hb.size, h.b1, h.b2, h.xb⟩
/-- what is no cells may change at or beyond S -/
theorem BkI.own {row : Option Nat} (h : BkI w0 b0 SB QB X B1 B2 S a n cL i l c T r x xt M Ds pre seen Q v) (hg : v.grownBy w row) (hr : ∀ b, row = some b → S ≤ b ∧ ∃ o : Obj, v.heap[b]? = some o ∧ o.isCells = false) (hS : b0 ≤ S) : BkI w0 b0 SB QB X B1 B2 S a n cL i l c T r x xt M Ds pre seen Q w := by
  have hk := KeptR.of_grown hg
  have hR : ∀ b, some b = row → S ≤ b ∧ ∃ o : Obj, v.heap[b]? = some o ∧ o.isCells = false := fun b e => hr b e.symm
  refine ⟨h.m.kept hk (fun b e o ho => ?_), h.inn, h.bnd, h.xs, hk.blk h.way (fun e => ?_), hk.own h.tr (fun b hb e => ?_), h.xn, ⟨h.mks.nd, fun D hD => ⟨(h.mks.at_ D hD).1, (h.mks.at_ D hD).2.1, hk.blk (h.mks.at_ D hD).2.2 (fun e => ?_)⟩⟩, Nat.le_trans h.size hg.size, h.b1, h.b2, h.xb⟩
  · obtain ⟨h1, o', h2, h3⟩ := hR b e
    rw [ho] at h2
    cases h2
    exact ⟨h3, Nat.le_trans hS h1⟩
  · have := (hR _ e).1
    have := h.xb
    omega
  · obtain ⟨h1, o', h2, h3⟩ := hR b e
    obtain ⟨cs, hc⟩ := own_in h.tr b hb
    rw [hc] at h2
    cases h2
    cases h3
  · have := (hR _ e).1
    have := (h.mks.at_ D hD).2.1
    omega
/-- a party that is known -/
theorem BkI.seen_ {k : Nat} (h : BkI w0 b0 SB QB X B1 B2 S a n cL i l c T r x xt M Ds pre seen Q v) (hs : inS seen (gt l (ix l k)).to_ = true) : BkI w0 b0 SB QB X B1 B2 S a n cL i l c T r x xt M Ds (pre ++ [k]) seen Q v :=
  ⟨h.m, innP_seen h.inn ((inS_iff _ _).1 hs), h.bnd, h.xs, h.way, h.tr, h.xn, h.mks, h.size, h.b1, h.b2, h.xb⟩
/-- a new party: first the list of the known ones, .. -/
theorem BkI.grown {sa : Option Addr} {cs g c' : Nat} {p : ByteArray} (h : BkI w0 b0 SB QB X B1 B2 S a n cL i l c T r x xt M Ds pre seen Q v) (hS : v.heap[SB]? = some (.cells #[.slice sa seen.length cs] 59 (0, 0))) (hO : OwnL v b0 9 1 sc (.slice sa seen.length cs) seen) (hb0 : b0 ≤ SB)
    (hav : ∀ b ∈ [B1, B2, X], (Value.slice sa seen.length cs).ownBlock ≠ some b) (hg : v.grownBy w (Value.slice sa seen.length cs).ownBlock) (hO' : OwnL w b0 9 1 sc (.slice (some ⟨g, 0, none⟩) (seen.length + 1) c') (seen ++ [p])) (hat : (Value.slice sa seen.length cs).ownBlock = some g ∨ v.heap.size ≤ g) :
    BkM w0 b0 SB QB a n cL i (.slice none 0 0) [B1, B2, X] (seen ++ [p]) Q (w.setCell ⟨SB, 0, none⟩ (.slice (some ⟨g, 0, none⟩) (seen.length + 1) c')) ∧ Soft b0 B1 B2 v (w.setCell ⟨SB, 0, none⟩ (.slice (some ⟨g, 0, none⟩) (seen.length + 1) c')) ∧
    (∀ {α : Type} {B k : Nat} {f : α → List Value} {u : Value} {xs : List α}, OwnL v B 3 k f u xs → OwnL (w.setCell ⟨SB, 0, none⟩ (.slice (some ⟨g, 0, none⟩) (seen.length + 1) c')) B 3 k f u xs) ∧
    (w.setCell ⟨SB, 0, none⟩ (.slice (some ⟨g, 0, none⟩) (seen.length + 1) c')).heap[X]? = some (.cells #[.string x.p, .slice x.a x.n x.c] 70 (0, 0)) := by
  have hb := h.b1
  have hb' := h.b2
  have hs := h.size
  have hxb := h.xb
  obtain ⟨k1, k2, k3⟩ := h.m.known hS hO hb0 (fun b hb => ⟨hav b hb, by simp only [List.mem_cons, List.not_mem_nil, or_false] at hb; rcases hb with rfl | rfl | rfl <;> omega⟩) hg hO' hat
  refine ⟨k1, ⟨_, k2, fun b e => ?_⟩, k3, k2.blk h.way (fun e => ?_)⟩
  · rcases e with rfl | e
    · exact ⟨⟨_, _, hS⟩, hb0, by omega, by omega⟩
    · obtain ⟨cs, hc⟩ := own_in hO b e
      refine ⟨⟨_, _, hc⟩, (hO.lt b e).1, fun e1 => ?_, fun e1 => ?_⟩
      · subst e1
        exact hav b (by simp) e
      · subst e1
        exact hav b (by simp) e
  · rcases e with e | e
    · exact blk_ne h.way hS (by decide) e
    · obtain ⟨cs, hc⟩ := own_in hO _ e
      exact blk_ne h.way hc (by decide) rfl
/-- .. then the queue -/
theorem BkI.pushed {v5 w6 : World} {qa : Option Addr} {qc g o c2 k : Nat} {y : Wy} {p : ByteArray} (h : BkI w0 b0 SB QB X B1 B2 S a n cL i l c T r x xt M Ds pre seen Q v) (hm : BkM w0 b0 SB QB a n cL i (.slice none 0 0) [B1, B2, X] (seen ++ [p]) Q v5) (hs5 : Soft b0 B1 B2 v v5)
    (hint : ∀ {α : Type} {B k : Nat} {f : α → List Value} {u : Value} {xs : List α}, OwnL v B 3 k f u xs → OwnL v5 B 3 k f u xs) (hway : v5.heap[X]? = some (.cells #[.string x.p, .slice x.a x.n x.c] 70 (0, 0)))
    (hQ : v5.heap[QB]? = some (.cells #[.slice qa Q.length qc] 67 (0, 0))) (hO : OffL v5 b0 70 2 wyc (.slice qa Q.length qc) (Q.map Prod.fst)) (hav : ∀ b ∈ [B1, B2, X], (Value.slice qa Q.length qc).ownBlock ≠ some b) (hb0 : b0 ≤ QB)
    (hQ' : w6.heap[QB]? = some (.cells #[.slice (some ⟨g, o, none⟩) (Q.length + 1) c2] 67 (0, 0))) (hO' : OffL w6 b0 70 2 wyc (.slice (some ⟨g, o, none⟩) (Q.length + 1) c2) (Q.map Prod.fst ++ [y])) (hk : Kept2 v5 w6 (some QB) (Value.slice qa Q.length qc).ownBlock) (hat : (Value.slice qa Q.length qc).ownBlock = some g ∨ v5.heap.size ≤ g)
    (hl : 0 < l.length) (hp : p = (gt l (ix l k)).to_) (hne : p ≠ T) (hns : inS seen p = false) (hyp : y.p = p) (hy : OwnL v b0 3 1 ic (.slice y.a y.n y.c) (il (xt ++ [ix l k]))) (hyn : y.n = (xt ++ [ix l k]).length) :
    BkI w0 b0 SB QB X B1 B2 S a n cL i l c T r x xt M Ds (pre ++ [k]) (seen ++ [p]) (Q ++ [(y, xt ++ [ix l k])]) w6 ∧ Soft b0 B1 B2 v w6 := by
  have hb1 := h.b1
  have hb2 := h.b2
  have hsz := h.size
  have hxb := h.xb
  have hs51 : v.heap.size ≤ v5.heap.size := by obtain ⟨R, k, _⟩ := hs5; exact k.size
  have hkr := KeptR.of_two hk
  have hq := hm.queue (Q' := Q ++ [(y, xt ++ [ix l k])]) (qa' := some ⟨g, o, none⟩) (c' := c2) hQ hO hkr (fun b e => by
      rcases e with e | e
      · exact .inl (Option.some.inj e)
      · exact .inr e.symm) hb0 (by rw [List.length_append]; exact hQ') (by rw [List.length_append, List.map_append]; exact hO') (fun b hb e => by
      rcases hat with e1 | e1
      · exact hav b hb (by rw [e1]; exact e)
      · have e2 : g = b := by simpa [Value.ownBlock] using e
        simp only [List.mem_cons, List.not_mem_nil, or_false] at hb
        rcases hb with rfl | rfl | rfl <;> omega) (fun z hz => by
      rcases List.mem_append.1 hz with e | e
      · exact .inl e
      · rw [List.mem_singleton.1 e]
        exact .inr ⟨hkr.own (hint hy) (fun b hb e => by
          obtain ⟨cs, hc⟩ := own_in (hint hy) b hb
          rcases e with e | e
          · cases e
            exact blk_ne hc hQ (by decide) rfl
          · obtain ⟨cs', hc'⟩ := off_in hO b e.symm
            exact blk_ne hc hc' (by decide) rfl), hyn⟩)
  obtain ⟨hq, hint2⟩ := hq
  have hs6 : Soft b0 B1 B2 v5 w6 := ⟨_, hkr, fun b e => by
    rcases e with e | e
    · cases e
      exact ⟨⟨_, _, hQ⟩, hb0, by omega, by omega⟩
    · obtain ⟨cs, hc⟩ := off_in hO b e.symm
      exact ⟨⟨_, _, hc⟩, (hO.lt b e.symm).1, fun e1 => by subst e1; exact hav b (by simp) e.symm, fun e1 => by subst e1; exact hav b (by simp) e.symm⟩⟩
  refine ⟨⟨hq, ?_, ?_, ?_, ?_, hint2 (hint h.tr), h.xn, (h.mks.soft hs5).soft hs6, ?_, hb1, hb2, h.xb⟩, hs5.trans hs6⟩
  · have := innP_push h.inn (i := k) (by rw [← hp]; exact hne)
    unfold wys at this ⊢
    rw [List.map_append, List.map_cons, List.map_nil]
    rw [← hp] at this
    rw [hyp]
    exact this
  · rw [hp] at hns ⊢
    exact h.bnd.grow (ix_lt k hl) hns y _ (by rw [List.length_append, List.length_singleton]; have := h.xs; omega)
  · rw [List.length_append]
    have := h.xs
    omega
  · refine hkr.blk hway (fun e => ?_)
    rcases e with e | e
    · cases e
      exact blk_ne hway hQ (by decide) rfl
    · exact hav X (by simp) e.symm
  · exact Nat.le_trans hsz (Nat.le_trans hs51 hk.size)
end
/-- back returns: its result is stored, the marks are taken off -/
theorem back_end {w0 : World} {b0 S : Nat} {Ds : List Nat} {R : List Nat} {r : List Nat} {a' : Option Addr} {c' : Nat} {fn : Func} {n : Nat} {tmps : Array Value} {W2 : World} (hb0 : b0 = w0.heap.size)
    (h2 : W2.heap[b0 + 1 + 1]? = some (.cells #[.slice a' R.length c'] 38 (0, 0))) (hb : Below w0.heap.size w0 W2) (hO : OwnL W2 b0 3 1 ic (.slice a' R.length c') (il R)) (hk : Mks b0 S Ds W2) (hr : r = R) (hn : r = [] → a' = none)
    (hres : ∀ (w' : World) (v : Value), w'.cell? ⟨b0 + 1 + 1, 0, none⟩ = some v → (results fn tmps).run Try.prog w' = .ok v w') :
    bodyPostM Fence.wide n Try.prog fn (fun e w' => ∃ a' c', e = .returned (.slice a' r.length c') ∧ (r = [] → a' = none) ∧ OwnL w' w0.heap.size 3 1 ic (.slice a' r.length c') (il r) ∧ Below w0.heap.size w0 w') .ret { tmps := tmps, defers := Ds.map mark } W2 := by
  subst hr
  subst hb0
  refine leaves_marks Ds W2 hk fun w' hw => ?_
  have hnc : ∀ {b : Nat} {cs : Array Value} {T : TypeId}, W2.heap[b]? = some (.cells cs T (0, 0)) → ¬ b ∈ Ds := fun hc e => by
    have := (hk.at_ _ e).2.2
    rw [hc] at this
    cases this
  refine ⟨_, hres w' _ (cell_of (hw.blk h2 (hnc h2)) 0 _ rfl), a', c', rfl, hn, hw.own hO (fun b e => ?_), hw.below hb (fun b e => (hk.at_ b e).1)⟩
  obtain ⟨cs, hc⟩ := own_in hO b e
  exact hnc hc
/-- a round of the loop over owed leaves: the way is found -/
structure BkR (w0 : World) (b0 S : Nat) (l : List Tr) (c p : ByteArray) (r : List Nat) (Ds pre R : List Nat) (a' : Option Addr) (c' : Nat) (W : World) : Prop where
  is : pre <+: owL l c p l.length → r = R
  ne : R ≠ []
  cell : W.heap[b0 + 1 + 1]? = some (.cells #[.slice a' R.length c'] 38 (0, 0))
  own : OwnL W b0 3 1 ic (.slice a' R.length c') (il R)
  bel : Below w0.heap.size w0 W
  mks : Mks b0 S Ds W
theorem BkR.kept {w0 : World} {b0 S : Nat} {l : List Tr} {c p : ByteArray} {r Ds pre R : List Nat} {a' : Option Addr} {c' : Nat} {v w : World} {row : Option Nat} (h : BkR w0 b0 S l c p r Ds pre R a' c' v) (hg : v.grownBy w row) (hr : ∀ b, row = some b → S ≤ b ∧ ∃ o : Obj, v.heap[b]? = some o ∧ o.isCells = false) (hS : w0.heap.size ≤ S) : BkR w0 b0 S l c p r Ds pre R a' c' w := by
  have hk := KeptR.of_grown hg
  have hR : ∀ b, some b = row → S ≤ b ∧ ∃ o : Obj, v.heap[b]? = some o ∧ o.isCells = false := fun b e => hr b e.symm
  refine ⟨h.is, h.ne, hk.blk h.cell (fun e => ?_), hk.own h.own (fun b hb e => ?_), hk.below h.bel (fun b e => Nat.le_trans hS (hR b e).1), ⟨h.mks.nd, fun D hD => ⟨(h.mks.at_ D hD).1, (h.mks.at_ D hD).2.1, hk.blk (h.mks.at_ D hD).2.2 (fun e => ?_)⟩⟩⟩
  · obtain ⟨h1, o', h2, h3⟩ := hR _ e
    rw [h.cell] at h2
    cases h2
    cases h3
  · obtain ⟨h1, o', h2, h3⟩ := hR b e
    obtain ⟨cs, hc⟩ := own_in h.own b hb
    rw [hc] at h2
    cases h2
    cases h3
  · have := (hR _ e).1
    have := (h.mks.at_ D hD).2.1
    omega
/-- the queue behind a pop -/
theorem BkM.popped {w0 : World} {b0 SB QB : Nat} {a qa qa' : Option Addr} {n cL i qc qc' : Nat} {rv : Value} {av : List Nat} {seen : List ByteArray} {x : Wy × List Nat} {Q : List (Wy × List Nat)} {v w : World} (h : BkM w0 b0 SB QB a n cL i rv av seen (x :: Q) v) (hQ : v.heap[QB]? = some (.cells #[.slice qa (Q.length + 1) qc] 67 (0, 0)))
    (hO : OffL v b0 70 2 wyc (.slice qa (Q.length + 1) qc) (x.1 :: Q.map Prod.fst)) (hk : Kept2 v w (some QB) none) (hb0 : b0 ≤ QB)
    (hQ' : w.heap[QB]? = some (.cells #[.slice qa' Q.length qc'] 67 (0, 0))) (hO' : OffL w b0 70 2 wyc (.slice qa' Q.length qc') (Q.map Prod.fst)) (hav : av = []) :
    BkM w0 b0 SB QB a n cL i rv av seen Q w ∧ (∀ {α : Type} {B k : Nat} {f : α → List Value} {u : Value} {xs : List α}, OwnL v B 3 k f u xs → OwnL w B 3 k f u xs) ∧ ∀ b, b < v.heap.size → b ≠ QB → w.heap[b]? = v.heap[b]? := by
  subst hav
  obtain ⟨h1, h2⟩ := h.queue (Q' := Q) hQ hO (KeptR.of_two hk) (fun b e => by
    rcases e with e | e
    · exact .inl (Option.some.inj e)
    · cases e) hb0 hQ' hO' (fun b hb => by cases hb) (fun z hz => .inl (List.mem_cons_of_mem _ hz))
  exact ⟨h1, h2, fun b hb hne => hk.block b hb (fun e => hne (Option.some.inj e)) (fun e => by cases e)⟩
theorem Mks.kept {b0 S S' : Nat} {Ds : List Nat} {v w : World} (h : Mks b0 S Ds v) (hk : ∀ (b : Nat) (cs : Option (List Deferred)), v.heap[b]? = some (Obj.deferred cs) → w.heap[b]? = v.heap[b]?) (hS : S ≤ S') : Mks b0 S' Ds w :=
  ⟨h.nd, fun D hD => ⟨(h.at_ D hD).1, Nat.lt_of_lt_of_le (h.at_ D hD).2.1 hS, by rw [hk D _ (h.at_ D hD).2.2]; exact (h.at_ D hD).2.2⟩⟩
theorem BkI.keeps {w0 : World} {b0 SB QB X B1 B2 S : Nat} {a : Option Addr} {n cL i : Nat} {l : List Tr} {c T : ByteArray} {r : List Nat} {x : Wy} {xt : List Nat} {M : Nat} {Ds pre : List Nat} {seen : List ByteArray} {Q : List (Wy × List Nat)} {v w : World} (h : BkI w0 b0 SB QB X B1 B2 S a n cL i l c T r x xt M Ds pre seen Q v) (hs : Soft b0 B1 B2 v w) (B : Nat) : KeepsFrom B v w ∧ KpG b0 [B1, B2] v w := by
  have h1 := h.b1
  have h2 := h.b2
  have h3 := h.size
  have h4 := h.xb
  exact hs.keeps B (by omega) (by omega) (by omega)
section
variable {α : Type} {F : Fence} {nF : Nat} (w : World) {ops : Array Oper} {rest : List Oper} {o : Oper} {a : Act} {Q : Exit → Act → World → Prop}
/-- 'append(l, x)' at elements of one cell, inside a fence -/
theorem wpListIn_append_1 (hg : o.guard = none) (s x : Operand) (t : TypeId) (hop : o.op = Op.call { callee := Callee.builtin Builtin.append, args := #[s, x], argTypes := #[t, t] }) (T : TypeId) (z : Value) (bytes : Nat) (ht : Try.prog.underlying t = some (.slice T)) (hi : (Try.prog.info? T).map (fun i => (i.zero, i.size, i.bytes)) = some (some z, 1, bytes)) (hz : z.cells.size = 1) (hby : bytes ≤ 1000)
    (B : Nat) (f : α → List Value) (v : Value) (xs : List α) (n : Nat) (hn : xs.length = n) (e : α) (hf : (f e).length = 1) (hf1 : ∀ u ∈ f e, u.oneCell' = true) (X : Nat) (cs : Array Value)
    (hs : a.eval s = v) (hx : a.eval x = .slice (some ⟨X, 0, none⟩) 1 1) (hown : OwnL w B T 1 f v xs) (hX : w.heap[X]? = some (.cells cs T (0, 0))) (hcs : cs.toList = f e) (hl : n ≤ 100000) (hB : B ≤ w.heap.size)
    (hK : ∀ g cap w', OwnL w' B T 1 f (.slice (some ⟨g, 0, none⟩) (n + 1) cap) (xs ++ [e]) → w.grownBy w' v.ownBlock → (v.ownBlock = some g ∨ g = w.heap.size) → wpListIn F nF Try.prog ops Q rest (a.put o.dst (.slice (some ⟨g, 0, none⟩) (n + 1) cap)) w') : wpListIn F nF Try.prog ops Q (o :: rest) a w := by
  subst hn
  obtain ⟨i0, hi0, hz0, hz1, hz2⟩ := info_parts hi
  refine wpListIn_append_own_at (w := w) hg s x _ hop B T i0 z 1 bytes ht hi0 hz0 hz1 hz2 hz (by decide) v xs.length _ hs hown ⟨X, 0, none⟩ 1 1 (f e) hx (by rw [hf]) (fun j u hu => World.news_of_block hX j u (by rw [hcs]; exact hu)) hf1 (by unfold maxLen; omega) (Nat.le_trans (Nat.mul_le_mul_left _ hby) (by omega)) hB ?_
  intro v' w' h1 h2 _ h5
  have h3 : OwnL w' B T 1 f v' (xs ++ [e]) := by
    unfold OwnL
    rw [List.length_append, List.flatMap_append]
    simpa using h1
  rcases h1.2 with ⟨_, h0⟩ | ⟨g, cap, cur, rfl, _⟩
  · omega
  · refine hK g cap w' h3 h2 ?_
    rcases h5 with h5 | h5
    · exact .inl h5.symm
    · exact .inr (Option.some.inj h5)
end
theorem info_str : (Try.prog.info? 9).map (fun i => (i.zero, i.size, i.bytes)) = some (some (.string ⟨#[]⟩), 1, 16) := by kernel_rfl
/-- a copy that grew: nothing older is written -/
theorem copy_grew {α : Type} {W w4 w5 : World} {T : TypeId} {f : α → List Value} {xs : List α} {u : Value} {o : Obj} (hb4 : Below W.heap.size W w4) (ho4 : OwnL w4 W.heap.size T 1 f u xs) (hg5 : (w4.alloc o).grownBy w5 u.ownBlock) : Below W.heap.size W w5 :=
  (hb4.alloc hb4.size _).grown hg5 (Nat.le_trans hb4.size (by rw [World.size_alloc]; exact Nat.le_succ _)) (fun r e => (ho4.lt r e).1)
/-- the way is found: the result is stored -/
theorem BkI.hit {w0 : World} {b0 SB QB X B1 B2 S : Nat} {a : Option Addr} {n cL i : Nat} {l : List Tr} {c T : ByteArray} {r : List Nat} {x : Wy} {xt : List Nat} {M : Nat} {Ds pre : List Nat} {seen : List ByteArray} {Q : List (Wy × List Nat)} {v : World} {g5 c5 tn B5 k : Nat} (h : BkI w0 b0 SB QB X B1 B2 S a n cL i l c T r x xt M Ds pre seen Q v)
    (hO : OwnL v B5 3 1 ic (.slice (some ⟨g5, 0, none⟩) (tn + 1) c5) (il xt ++ [(ix l k : Int)])) (hB : b0 ≤ B5) (htn : x.n = tn) (ht : (gt l (ix l k)).to_ = T) :
    Soft b0 B1 B2 v (v.setCell ⟨b0 + 1 + 1, 0, none⟩ (.slice (some ⟨g5, 0, none⟩) (tn + 1) c5)) ∧ BkR w0 b0 S l c x.p r Ds (pre ++ [k]) (xt ++ [ix l k]) (some ⟨g5, 0, none⟩) c5 (v.setCell ⟨b0 + 1 + 1, 0, none⟩ (.slice (some ⟨g5, 0, none⟩) (tn + 1) c5)) := by
  obtain ⟨h1, h2, h3, h4⟩ := h.m.result (.slice (some ⟨g5, 0, none⟩) (tn + 1) c5)
  have hlen : (xt ++ [ix l k]).length = tn + 1 := by rw [List.length_append, List.length_singleton, ← h.xn, htn]
  have hx := h.xb
  have hs : Soft b0 B1 B2 v (v.setCell ⟨b0 + 1 + 1, 0, none⟩ (.slice (some ⟨g5, 0, none⟩) (tn + 1) c5)) := ⟨_, h3, fun b e => by subst e; exact ⟨⟨_, _, h.m.r4⟩, by omega, by omega, by omega⟩⟩
  refine ⟨hs, fun hp => innP_hit h.inn ht hp, by simp, ?_, ?_, h2, h.mks.soft hs⟩
  · rw [hlen]
    exact h1
  · rw [hlen, il_snoc]
    exact h4 (hO.lower' hB)
theorem grown_side {v w : World} {SB b0 sl c Y : Nat} {sa : Option Addr} {se : List ByteArray} {cs : Array Value} (hS : v.heap[SB]? = some (.cells #[.slice sa sl c] 59 (0, 0))) (hO : OwnL v b0 9 1 sc (.slice sa sl c) se) (hg : v.grownBy w (Value.slice sa sl c).ownBlock) (hY : v.heap[Y]? = some (.cells cs 31 (0, 0))) (z : Value) :
    w.heap[SB]? = some (.cells #[.slice sa sl c] 59 (0, 0)) ∧ (w.setCell ⟨SB, 0, none⟩ z).heap[Y]? = some (.cells cs 31 (0, 0)) := by
  refine ⟨by rw [hg.block SB (blk_lt hS) (fun e => own_blk hO hS (by decide) e.symm), hS], ?_⟩
  rw [Below.heap_setCell w ⟨SB, 0, none⟩ z Y (blk_ne hY hS (by decide)), hg.block Y (blk_lt hY) (fun e => own_blk hO hY (by decide) e.symm), hY]
theorem Mks.cons {b0 S D : Nat} {Ds : List Nat} {w : World} (h : Mks b0 S Ds w) (hS : S ≤ D) (hb : b0 ≤ S) (hD : w.heap[D]? = some (.deferred (some []))) (hsz : S ≤ w.heap.size) : Mks b0 w.heap.size (D :: Ds) w := by
  refine ⟨List.nodup_cons.2 ⟨fun e => by have := (h.at_ D e).2.1; omega, h.nd⟩, fun E hE => ?_⟩
  rcases List.mem_cons.1 hE with e | e
  · subst e
    exact ⟨Nat.le_trans hb hS, (Array.getElem?_eq_some_iff.1 hD).1, hD⟩
  · have := h.at_ E e
    exact ⟨this.1, by omega, this.2.2⟩
end Go.Proofs.Ytpphiohppgphnaa.Cs
