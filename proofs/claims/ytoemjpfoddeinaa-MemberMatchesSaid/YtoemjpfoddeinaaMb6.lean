/-
  Member: members with memory of their own; the walks of copied and of the reference's Twin.
-/
import Derived.Test.YtoemjpfoddeinaaMb5
import Derived.Test.YtoemjpfoddeinaaMbB
import Derived.Deep.RegionLaw
namespace Go.Proofs.Ytoemjpfoddeinaa.Mb
open Go.RowKit Go.Proofs.Ytoemjpfoddeinaa Go.Proofs.Ytoemjpfoddeinaa.Ls Go.Proofs.Ytoemjpfoddeinaa.Kb
open Go.Proofs.Ytoemjpfoddeinaa.Nm hiding ret_bool ret_int

def sl (x : P) : Value := .slice x.2.1 x.1.ac.length x.2.2
/-- each member's accounts in a block of their own -/
structure Rows (w : World) (B : Nat) (xs : List P) : Prop where
  own : ∀ x ∈ xs, OwnL w B 32 4 acc (sl x) x.1.ac
  ne : xs.Pairwise fun x y => ∀ b, (sl x).ownBlock = some b → (sl y).ownBlock ≠ some b
structure OwnM (w : World) (B : Nat) (a : Option Addr) (c : Nat) (xs : List P) : Prop where
  ms : OwnL w B 30 5 mec (.slice a xs.length c) xs
  rows : Rows w B xs
theorem own_blk {α : Type} {w : World} {B : Nat} {T T' : TypeId} {k : Nat} {f : α → List Value} {v : Value} {xs : List α} {b : Nat} {cs : Array Value} (h : OwnL w B T k f v xs) (h' : w.heap[b]? = some (.cells cs T' (0, 0))) (hT : T ≠ T') : v.ownBlock ≠ some b := by
  rcases h.2 with ⟨rfl, _⟩ | ⟨g, cap, cur, rfl, _, hg, _⟩
  · intro e; cases e
  · intro e
    cases e
    rw [h'] at hg
    cases hg
    exact hT rfl
theorem own_kept {α : Type} {w w' : World} {B : Nat} {T : TypeId} {k : Nat} {f : α → List Value} {v : Value} {xs : List α} {row : Option Nat} (h : OwnL w B T k f v xs) (hg : w.grownBy w' row) (hne : ∀ b, v.ownBlock = some b → row ≠ some b) : OwnL w' B T k f v xs := by
  refine World.ownsRow.kept h hg ?_
  rcases h.2 with ⟨rfl, _⟩ | ⟨g, cap, cur, rfl, _, hgg, _⟩
  · exact .inl rfl
  · exact .inr fun e => hne g rfl (e.symm.trans rfl)
theorem own_in {α : Type} {w : World} {B : Nat} {T : TypeId} {k : Nat} {f : α → List Value} {v : Value} {xs : List α} (h : OwnL w B T k f v xs) (g : Nat) (hg : v.ownBlock = some g) : ∃ cs, w.heap[g]? = some (.cells cs T (0, 0)) := by
  rcases h.2 with ⟨rfl, _⟩ | ⟨g', cap, cur, rfl, _, hgg, _⟩
  · cases hg
  · cases hg
    exact ⟨cur, hgg⟩
theorem own_ne2 {α β : Type} {w : World} {B B' : Nat} {T T' : TypeId} {k k' : Nat} {f : α → List Value} {f' : β → List Value} {v v' : Value} {xs : List α} {ys : List β} (h : OwnL w B T k f v xs) (h' : OwnL w B' T' k' f' v' ys) (hT : T ≠ T') : ∀ b, v.ownBlock = some b → v'.ownBlock ≠ some b := fun b hb hb' => by
  obtain ⟨cs, hc⟩ := own_in h' b hb'
  exact own_blk h hc hT hb
theorem Rows.nil (w : World) (B : Nat) : Rows w B [] := ⟨fun x hx => by (cases hx), .nil⟩
theorem OwnM.nil (w : World) (B : Nat) : OwnM w B none 0 [] := ⟨OwnL.nil _ _ _ _ _, Rows.nil _ _⟩
theorem Rows.below {w w' : World} {B : Nat} {xs : List P} (h : Rows w B xs) (hb : Below w.heap.size w w') : Rows w' B xs := ⟨fun x hx => (h.own x hx).below hb, h.ne⟩
theorem OwnM.below {w w' : World} {B : Nat} {a : Option Addr} {c : Nat} {xs : List P} (h : OwnM w B a c xs) (hb : Below w.heap.size w w') : OwnM w' B a c xs := ⟨h.ms.below hb, h.rows.below hb⟩
theorem OwnM.lower {w : World} {B B' : Nat} {a : Option Addr} {c : Nat} {xs : List P} (h : OwnM w B a c xs) (hB : B' ≤ B) : OwnM w B' a c xs := ⟨h.ms.lower' hB, fun x hx => (h.rows.own x hx).lower' hB, h.rows.ne⟩
theorem OwnM.at {w : World} {B : Nat} {a : Option Addr} {c : Nat} {xs : List P} (h : OwnM w B a c xs) : AtM w a xs := ⟨(h.ms.sl mec_len).1, fun x hx => ((h.rows.own x hx).sl acc_len).1⟩
theorem Rows.far {w : World} {B b i : Nat} {T' : TypeId} {cs : Array Value} {xs : List P} (h : Rows w B xs) (h' : w.heap[b]? = some (.cells cs T' (0, 0))) (hT : 32 ≠ T') (v : Value) : Rows (w.setCell ⟨b, i, none⟩ v) B xs :=
  ⟨fun x hx => (h.own x hx).far (p := ⟨b, i, none⟩) (own_blk (h.own x hx) h' hT) v, h.ne⟩
theorem Rows.kept {α : Type} {w w' : World} {B B' : Nat} {T' : TypeId} {k : Nat} {f : α → List Value} {u : Value} {ys : List α} {xs : List P} (h : Rows w B xs) (ho : OwnL w B' T' k f u ys) (hT : 32 ≠ T') (hg : w.grownBy w' u.ownBlock) : Rows w' B xs :=
  ⟨fun x hx => own_kept (h.own x hx) hg (own_ne2 (h.own x hx) ho hT), h.ne⟩
theorem Rows.snoc {w : World} {B C : Nat} {xs : List P} {y : P} (h : Rows w B xs) (hy : OwnL w C 32 4 acc (sl y) y.1.ac) (hBC : B ≤ C) (hC : ∀ x ∈ xs, ∀ b, (sl x).ownBlock = some b → b < C) : Rows w B (xs ++ [y]) := by
  refine ⟨fun x hx => ?_, ?_⟩
  · rcases List.mem_append.1 hx with hx | hx
    · exact h.own x hx
    · rw [List.mem_singleton] at hx
      subst hx
      exact hy.lower' hBC
  · rw [List.pairwise_append]
    refine ⟨h.ne, List.pairwise_singleton _ _, fun x hx z hz b hb hb' => ?_⟩
    rw [List.mem_singleton] at hz
    subst hz
    have h1 := hC x hx b hb
    have h2 := (hy.lt b hb').1
    omega
theorem Rows.lt {w : World} {B : Nat} {xs : List P} (h : Rows w B xs) : ∀ x ∈ xs, ∀ b, (sl x).ownBlock = some b → b < w.heap.size := fun x hx b hb => ((h.own x hx).lt b hb).2

/-- one member more at the end of a boxed list -/
theorem app_end {w5 wa w9 : World} {B C : Nat} {u : Value} {ys : List P} {m : Me} {a5 : Option Addr} {c5 g9 c9 OUT : Nat}
    (hO : OwnL w5 B 30 5 mec u ys) (hR : Rows w5 B ys) (hn : OwnL w5 C 32 4 acc (.slice a5 m.ac.length c5) m.ac) (hBC : B ≤ C) (hC : ∀ x ∈ ys, ∀ b, (sl x).ownBlock = some b → b < C)
    (hwa : Below w5.heap.size w5 wa) (hg : wa.grownBy w9 u.ownBlock) (ho9 : OwnL w9 B 30 5 mec (.slice (some ⟨g9, 0, none⟩) (ys.length + 1) c9) (ys ++ [(m, (a5, c5))]))
    (hout : w5.heap[OUT]? = some (.cells #[u] 24 (0, 0))) :
    w9.heap[OUT]? = some (.cells #[u] 24 (0, 0)) ∧
    (w9.setCell ⟨OUT, 0, none⟩ (.slice (some ⟨g9, 0, none⟩) (ys.length + 1) c9)).heap[OUT]? = some (.cells #[.slice (some ⟨g9, 0, none⟩) (ys.length + 1) c9] 24 (0, 0)) ∧
    OwnL (w9.setCell ⟨OUT, 0, none⟩ (.slice (some ⟨g9, 0, none⟩) (ys.length + 1) c9)) B 30 5 mec (.slice (some ⟨g9, 0, none⟩) (ys.length + 1) c9) (ys ++ [(m, (a5, c5))]) ∧
    Rows (w9.setCell ⟨OUT, 0, none⟩ (.slice (some ⟨g9, 0, none⟩) (ys.length + 1) c9)) B (ys ++ [(m, (a5, c5))]) ∧
    (∀ b cs, w5.heap[b]? = some (.cells cs 24 (0, 0)) → OUT ≠ b → (w9.setCell ⟨OUT, 0, none⟩ (.slice (some ⟨g9, 0, none⟩) (ys.length + 1) c9)).heap[b]? = some (.cells cs 24 (0, 0))) := by
  have hOa := hO.below hwa
  have hne : ∀ (b : Nat) (cs : Array Value), w5.heap[b]? = some (.cells cs 24 (0, 0)) → w9.heap[b]? = some (.cells cs 24 (0, 0)) := fun b cs h => by
    have h1 := blk_keep h hwa
    have h2 := own_blk hOa h1 (by decide)
    exact (hg.block b (blk_lt h1) (fun e => h2 e.symm)).trans h1
  have h9 := hne OUT _ hout
  have hR9 : Rows w9 B (ys ++ [(m, (a5, c5))]) := (((hR.snoc (y := (m, (a5, c5))) hn hBC hC).below hwa).kept hOa (by decide) hg)
  refine ⟨h9, ?_, ho9.far (p := ⟨OUT, 0, none⟩) (own_blk ho9 h9 (by decide)) _, hR9.far h9 (by decide) _, fun b cs h hb => set_other (hne b cs h) hb _⟩
  simp [World.setCell, Array.getElem?_modify, h9]
theorem far_cell {wa w9 : World} {u : Value} {p : Addr} {v : Value} (hg : wa.grownBy w9 u.ownBlock) (h : wa.cell? p = some v) (hne : u.ownBlock ≠ some p.block) : w9.cell? p = some v := (hg.cell_far _ (World.block_lt_of_cell? _ _ h) (fun e => hne e.symm)).trans h
theorem take_succ_p (L : List P) (k : Nat) (h : k < L.length) : (fst L).take (k + 1) = (fst L).take k ++ [(gp L k).1] := by
  rw [List.take_add_one, List.getElem?_eq_getElem (by rw [fst_len]; exact h)]
  unfold gp fst
  rw [List.getD_eq_getElem?_getD, List.getElem?_eq_getElem h]
  simp
theorem len_of_fst {xs ys : List P} (h : fst ys = fst xs) : ys.length = xs.length := by rw [← fst_len, h, fst_len]
theorem zmem (w : World) : (zeroValue 30).run Try.prog w = .ok (Value.agg #[.string ⟨#[]⟩, .int .u8 0, .bool false, .int .i64 0, .slice none 0 0]) w := Try.zeroValue30 w

set_option maxRecDepth 100000 in
set_option maxHeartbeats 8000000 in
theorem copied_any (a : Option Addr) (c : Nat) (xs : List P) (w : World) (hn : xs.length ≤ 1000) (hZ : ∀ x ∈ xs, x.1.ac.length ≤ 1000) (hA : AtM w a xs) :
    Calls Try.prog 42 #[.agg #[.slice a xs.length c]] w fun e w' => ∃ a' c' ys, e = .returned (.agg #[.slice a' xs.length c']) ∧ fst ys = fst xs ∧ OwnM w' w.heap.size a' c' ys ∧ Below w.heap.size w w' := by
  have HA := Lib.hid hA
  have HZ := Lib.hid hZ
  clear hA hZ
  have hbo : Below w.heap.size w (((w.alloc (.cells #[.slice a xs.length c] 24)).alloc (.cells #[.slice none 0 0] 24)).alloc (.cells #[.slice none 0 0] 24)) := (((Below.refl _ _).alloc (Nat.le_refl _) _).alloc (by simp) _).alloc (by simp <;> omega) _
  have hx2 := blk_two w (.cells #[.slice a xs.length c] 24) (.cells #[.slice none 0 0] 24)
  have HX := Lib.hid (show (((w.alloc (.cells #[.slice a xs.length c] 24)).alloc (.cells #[.slice none 0 0] 24)).alloc (.cells #[.slice none 0 0] 24)).heap[w.heap.size]? = some (.cells #[.slice a xs.length c] 24 (0, 0)) from blk_past _ _ hx2.1)
  have HR := Lib.hid (show (((w.alloc (.cells #[.slice a xs.length c] 24)).alloc (.cells #[.slice none 0 0] 24)).alloc (.cells #[.slice none 0 0] 24)).heap[w.heap.size + 1]? = some (.cells #[.slice none 0 0] 24 (0, 0)) from blk_past _ _ hx2.2)
  have HT := Lib.hid (show (((w.alloc (.cells #[.slice a xs.length c] 24)).alloc (.cells #[.slice none 0 0] 24)).alloc (.cells #[.slice none 0 0] 24)).heap[w.heap.size + 1 + 1]? = some (.cells #[.slice none 0 0] 24 (0, 0)) from by
    have := blk_new ((w.alloc (.cells #[.slice a xs.length c] 24)).alloc (.cells #[.slice none 0 0] 24)) (.cells #[.slice none 0 0] 24)
    simpa using this)
  clear hx2
  go_enter Try.func42, Try.ntmps42
  go_wp2_with fail
  generalize ((w.alloc _).alloc _).alloc _ = wo at hbo HX HR HT ⊢
  go_loopw [5, 9] (fun _ i wr => ∃ (k : Nat) (ys : List P) (u : Value), k ≤ xs.length ∧ i = .int .i64 k ∧ Hid (fst ys = (fst xs).take k) ∧ Hid (OwnL wr w.heap.size 30 5 mec u ys) ∧ Hid (Rows wr w.heap.size ys) ∧
      Hid (wr.heap[w.heap.size]? = some (.cells #[.slice a xs.length c] 24 (0, 0))) ∧ Hid (wr.heap[w.heap.size + 1]? = some (.cells #[.slice none 0 0] 24 (0, 0))) ∧ Hid (wr.heap[w.heap.size + 1 + 1]? = some (.cells #[u] 24 (0, 0))) ∧ Hid (Below w.heap.size w wr)) (fun _ i _ => xs.length - (intOf i).toNat)
  case atStart => exact ⟨0, [], .slice none 0 0, by omega, rfl, rfl, OwnL.nil _ _ _ _ _, Rows.nil _ _, HX, HR, HT, hbo⟩
  case round =>
    clear HX HR HT hbo
    obtain ⟨k, ys, u, hk, rfl, HY, HO, HW, HX, HR, HT, HB⟩ := hrel
    have hT1 := blk_lt HT.out
    have HYL := Lib.hid (show ys.length = k by rw [← fst_len, HY.out, List.length_take, fst_len]; omega)
    by_cases hlt : k < xs.length
    · obtain ⟨b, off, rfl, q0, q1, q2, q3, q4⟩ := at_p (HA.out.below HB.out).ms k hlt
      have hki : (k : Int) < xs.length := by omega
      have hk0 : (0 : Int) ≤ (k : Int) := by omega
      have HTK := Lib.hid (take_succ_p xs k hlt)
      have HAC := Lib.hid ((HA.out.below HB.out).ac _ (gp_mem xs k hlt))
      have HLN := Lib.hid (HZ.out _ (gp_mem xs k hlt))
      generalize gp xs k = x at q0 q1 q2 q3 q4 HTK HAC HLN
      obtain ⟨m, pa, pc⟩ := x
      dsimp only at q0 q1 q2 q3 q4
      have HTK2 := Lib.hid (show (fst xs).take (k + 1) = (fst xs).take k ++ [m] from HTK.out)
      clear HTK

      have HXN := Lib.hid (blk_new wr (.cells #[.string m.nm, .int .u8 m.ro, .bool m.su, .int .i64 m.lim, .slice pa m.ac.length pc] 30))
      have hwz : Below wr.heap.size wr (wr.alloc (.cells #[.string m.nm, .int .u8 m.ro, .bool m.su, .int .i64 m.lim, .slice pa m.ac.length pc] 30)) := (Below.refl _ _).alloc (Nat.le_refl _) _
      have HO1 := Lib.hid (HO.out.below hwz)
      have HW1 := Lib.hid (HW.out.below hwz)
      have HX1 := Lib.hid (blk_keep HX.out hwz)
      have HR1 := Lib.hid (blk_keep HR.out hwz)
      have HT1 := Lib.hid (blk_keep HT.out hwz)
      have HB1 := Lib.hid (bt HB.out hwz (Nat.le_refl _))
      have HAC1 := Lib.hid (HAC.out.below hwz)
      have hblt := World.block_lt_of_cell? _ _ q0
      have hC0 := HW.out.lt
      have hsz := hwz.size
      have HC := Lib.hid (show ∀ x ∈ ys, ∀ b, (sl x).ownBlock = some b → b < (wr.alloc (.cells #[.string m.nm, .int .u8 m.ro, .bool m.su, .int .i64 m.lim, .slice pa m.ac.length pc] 30)).heap.size from fun x hx b h => Nat.lt_of_lt_of_le (hC0 x hx b h) hsz)
      have t0 : (wr.alloc (.cells #[.string m.nm, .int .u8 m.ro, .bool m.su, .int .i64 m.lim, .slice pa m.ac.length pc] 30)).cell? ⟨w.heap.size + 1 + 1, 0, none⟩ = some u := cell_of HT1.out 0 _ rfl
      have HU1 := Lib.hid (own_blk HO1.out HT1.out (by decide))
      have hol := HO.out.lt
      have HU2 := Lib.hid (show u.ownBlock ≠ some wr.heap.size from fun e => by have := (hol _ e).2; omega)
      clear HO HW HX HR HT HB HAC hwz hC0 hsz hol
      go_wp2_with fail
      generalize hwzz : wr.alloc (.cells #[.string m.nm, .int .u8 m.ro, .bool m.su, .int .i64 m.lim, .slice pa m.ac.length pc] 30) = wz at *
      clear q0 q1 q2 q3 q4
      have p0 := cell_of HXN.out 0 _ rfl
      have p1 := cell_of HXN.out 1 _ rfl
      have p2 := cell_of HXN.out 2 _ rfl
      have p3 := cell_of HXN.out 3 _ rfl
      have p4 := cell_of HXN.out 4 _ rfl
      have HBS := Lib.hid (show ∀ wx, Below wz.heap.size wz wx → wx.cell? ⟨w.heap.size + 1 + 1, 0, none⟩ = some u ∧ wx.cell? ⟨wr.heap.size, 0, none⟩ = some (.string m.nm) ∧ wx.cell? ⟨wr.heap.size, 1, none⟩ = some (.int .u8 m.ro) ∧ wx.cell? ⟨wr.heap.size, 2, none⟩ = some (.bool m.su) ∧ wx.cell? ⟨wr.heap.size, 3, none⟩ = some (.int .i64 m.lim) ∧ wx.cell? ⟨wr.heap.size, 4, none⟩ = some (.slice pa m.ac.length pc) from fun wx h => ⟨cell_of (blk_keep HT1.out h) 0 _ rfl, cell_of (blk_keep HXN.out h) 0 _ rfl, cell_of (blk_keep HXN.out h) 1 _ rfl, cell_of (blk_keep HXN.out h) 2 _ rfl, cell_of (blk_keep HXN.out h) 3 _ rfl, cell_of (blk_keep HXN.out h) 4 _ rfl⟩)
      have HTW0 := fun wx (h : Below wz.heap.size wz wx) => twin_any (m, (pa, pc)) wx HLN.out (HAC1.out.below h)
      dsimp only at HTW0
      have HTW := Lib.hid HTW0
      clear HTW0
      have k0 : Below wz.heap.size wz wz := Below.refl _ _
      have kd := k0.drew
      go_wp2_with fail
      go_region_law (first
          | (refine step_append_L (P := Try.prog) (α := P) rfl _ _ _ rfl 30 (Value.agg #[.string ⟨#[]⟩, .int .u8 0, .bool false, .int .i64 0, .slice none 0 0]) 5 56 Try.underlying22 info_mec rfl (by decide) w.heap.size mec u ys (m, (a5, c5)) w5.heap.size #[.string m.nm, .int .u8 m.ro, .bool m.su, .int .i64 m.lim, .slice a5 m.ac.length c5] (by rfl) (by rfl) (by first | exact HO5.out.below ((Below.refl _ _).alloc (Nat.le_refl _) _) | exact HO5.out.below ((Below.refl _ _).drew.alloc (Nat.le_refl _) _) | exact HO5.out.below ((Below.refl _ _).alloc (Nat.le_refl _) _).drew) (by first | exact blk_new _ _ | exact blk_new w5 _) rfl rfl (mec_one _) (by rw [HYL.out]; unfold maxLen; omega) (by rw [HYL.out]; omega) (by simp; omega) ?_; intro g9 c9 w9 ho9 hg9 hat9; have HE := Lib.hid (app_end (m := m) (OUT := w.heap.size + 1 + 1) HO5.out HW5.out HN5.out HB1.out.size HC.out (by first | exact (Below.refl _ _).alloc (Nat.le_refl _) _ | exact ((Below.refl _ _).alloc (Nat.le_refl _) _).drew | exact (Below.refl _ _).drew.alloc (Nat.le_refl _) _) hg9 ho9 HT5.out); have n0 := cell_of HE.out.1 0 _ rfl; have nf := frozen_of HE.out.1 0)
          | (go_simp; go_at_call 71; refine (HTW.out _ (by first | assumption | exact Below.drew (by assumption))).mono ?_; rintro e w5 ⟨a5, c5, rfl, ho5, hb5⟩; have k5 : Below wz.heap.size wz w5 := bt (by first | assumption | exact Below.drew (by assumption)) hb5 (Nat.le_refl _); have HO5 := Lib.hid (HO1.out.below k5); have HW5 := Lib.hid (HW1.out.below k5); have HT5 := Lib.hid (blk_keep HT1.out k5); have HN5 := Lib.hid (show OwnL w5 wz.heap.size 32 4 acc (.slice a5 m.ac.length c5) m.ac from ho5); have hT5 := blk_lt HT5.out; have t5 := cell_of HT5.out 0 _ rfl))
      all_goals
        have hwa : Below w5.heap.size w5 (w5.alloc (.cells #[.string m.nm, .int .u8 m.ro, .bool m.su, .int .i64 m.lim, .slice a5 m.ac.length c5] 30)) := (Below.refl _ _).alloc (Nat.le_refl _) _
        have HXF := Lib.hid (HE.out.2.2.2.2 w.heap.size _ (blk_keep HX1.out k5) (by omega))
        have HRF := Lib.hid (HE.out.2.2.2.2 (w.heap.size + 1) _ (blk_keep HR1.out k5) (by omega))
        have HBF : Hid (Below w.heap.size w (w9.setCell ⟨w.heap.size + 1 + 1, 0, none⟩ (.slice (some ⟨g9, 0, none⟩) (ys.length + 1) c9))) := by
          refine Below.setCell (p := ⟨w.heap.size + 1 + 1, 0, none⟩) ?_ (by show w.heap.size ≤ w.heap.size + 1 + 1; omega) _
          first
            | exact ((bt HB1.out k5 (Nat.le_refl _)).trans (hwa.mono (by omega))).grown hg9 (by simp; omega) (fun j hj => (HO5.out.lt j hj).1)
            | exact ((bt HB1.out k5 (Nat.le_refl _)).trans (hwa.drew.mono (by omega))).grown hg9 (by simp; omega) (fun j hj => (HO5.out.lt j hj).1)
        have HFS := Lib.hid (show fst (ys ++ [(m, (a5, c5))]) = (fst xs).take (k + 1) by rw [HTK2.out, ← HY.out]; simp [fst])
        clear hg9 ho9 hat9 hwa
        go_wp2
        go_roundw
        case rel => exact ⟨k + 1, _, _, by omega, by go_num, HFS, HE.out.2.2.1, HE.out.2.2.2.1, HXF, HRF, HE.out.2.1, HBF⟩
        case measure => simp [intOf]; omega
    · obtain rfl : k = xs.length := by omega
      obtain ⟨ao, co, rfl, _, _, _⟩ := HO.out.read mec_len
      have HYF := Lib.hid (show fst ys = fst xs by rw [HY.out, List.take_of_length_le (by rw [fst_len]; omega)])
      have x0 : wr.cell? ⟨w.heap.size, 0, none⟩ = some (.slice a xs.length c) := cell_of HX.out 0 _ rfl
      have o0 : wr.cell? ⟨w.heap.size + 1 + 1, 0, none⟩ = some (.slice ao ys.length co) := cell_of HT.out 0 _ rfl
      have r0 := cell_of HR.out 0 _ rfl
      have f0 := frozen_of HR.out 0
      go_wp2_with fail
      have hS : ((wr.setCell ⟨w.heap.size + 1, 0, none⟩ (.slice ao ys.length co)).heap[w.heap.size + 1]? = some (.cells #[.slice ao ys.length co] 24 (0, 0))) := by
        have h := HR.out
        simp [World.setCell, Array.getElem?_modify, h]
      have s0 := cell_of hS 0 _ rfl
      have hO2 := HO.out.far (p := ⟨w.heap.size + 1, 0, none⟩) (own_blk HO.out HR.out (by decide)) (.slice ao ys.length co)
      have hW2 := HW.out.far (i := 0) HR.out (by decide) (.slice ao ys.length co)
      have hB2 := HB.out.setCell (p := ⟨w.heap.size + 1, 0, none⟩) (show w.heap.size ≤ w.heap.size + 1 by omega) (.slice ao ys.length co)
      refine bodyPost_ret (v := .agg #[.slice ao ys.length co]) (by simp [results, Try.results42, go_sem, s0]) rfl ⟨ao, co, ys, by rw [HYL.out], HYF.out, ⟨hO2, hW2⟩, hB2⟩

set_option maxRecDepth 100000 in
set_option maxHeartbeats 8000000 in
theorem rtwins_any (a : Option Addr) (c : Nat) (xs : List P) (w : World) (hn : xs.length ≤ 1000) (hZ : ∀ x ∈ xs, x.1.ac.length ≤ 1000) (hA : AtM w a xs) :
    Calls Try.prog 12 #[.agg #[.slice a xs.length c]] w fun e w' => ∃ a' c' ys, e = .returned (.agg #[.slice a' xs.length c']) ∧ fst ys = fst xs ∧ OwnM w' w.heap.size a' c' ys ∧ Below w.heap.size w w' := by
  have HA := Lib.hid hA
  have HZ := Lib.hid hZ
  clear hA hZ
  have hbo : Below w.heap.size w (((w.alloc (.cells #[.slice a xs.length c] 24)).alloc (.cells #[.slice none 0 0] 24)).alloc (.cells #[.slice none 0 0] 24)) := (((Below.refl _ _).alloc (Nat.le_refl _) _).alloc (by simp) _).alloc (by simp <;> omega) _
  have hx2 := blk_two w (.cells #[.slice a xs.length c] 24) (.cells #[.slice none 0 0] 24)
  have HX := Lib.hid (show (((w.alloc (.cells #[.slice a xs.length c] 24)).alloc (.cells #[.slice none 0 0] 24)).alloc (.cells #[.slice none 0 0] 24)).heap[w.heap.size]? = some (.cells #[.slice a xs.length c] 24 (0, 0)) from blk_past _ _ hx2.1)
  have HR := Lib.hid (show (((w.alloc (.cells #[.slice a xs.length c] 24)).alloc (.cells #[.slice none 0 0] 24)).alloc (.cells #[.slice none 0 0] 24)).heap[w.heap.size + 1]? = some (.cells #[.slice none 0 0] 24 (0, 0)) from blk_past _ _ hx2.2)
  have HT := Lib.hid (show (((w.alloc (.cells #[.slice a xs.length c] 24)).alloc (.cells #[.slice none 0 0] 24)).alloc (.cells #[.slice none 0 0] 24)).heap[w.heap.size + 1 + 1]? = some (.cells #[.slice none 0 0] 24 (0, 0)) from by
    have := blk_new ((w.alloc (.cells #[.slice a xs.length c] 24)).alloc (.cells #[.slice none 0 0] 24)) (.cells #[.slice none 0 0] 24)
    simpa using this)
  clear hx2
  go_enter Try.func12, Try.ntmps12
  go_wp2_with fail
  generalize ((w.alloc _).alloc _).alloc _ = wo at hbo HX HR HT ⊢
  go_loopw [4] (fun i wr => ∃ (k : Nat) (ys : List P) (u : Value), k ≤ xs.length ∧ i = .int .i64 k ∧ Hid (fst ys = (fst xs).take k) ∧ Hid (OwnL wr w.heap.size 30 5 mec u ys) ∧ Hid (Rows wr w.heap.size ys) ∧
      Hid (wr.heap[w.heap.size]? = some (.cells #[.slice a xs.length c] 24 (0, 0))) ∧ Hid (wr.heap[w.heap.size + 1]? = some (.cells #[.slice none 0 0] 24 (0, 0))) ∧ Hid (wr.heap[w.heap.size + 1 + 1]? = some (.cells #[u] 24 (0, 0))) ∧ Hid (Below w.heap.size w wr)) (fun i _ => xs.length - (intOf i).toNat)
  case atStart => exact ⟨0, [], .slice none 0 0, by omega, rfl, rfl, OwnL.nil _ _ _ _ _, Rows.nil _ _, HX, HR, HT, hbo⟩
  case round =>
    clear HX HR HT hbo
    obtain ⟨k, ys, u, hk, rfl, HY, HO, HW, HX, HR, HT, HB⟩ := hrel
    have hT1 := blk_lt HT.out
    have HYL := Lib.hid (show ys.length = k by rw [← fst_len, HY.out, List.length_take, fst_len]; omega)
    by_cases hlt : k < xs.length
    · obtain ⟨b, off, rfl, q0, q1, q2, q3, q4⟩ := at_p (HA.out.below HB.out).ms k hlt
      have hki : (k : Int) < xs.length := by omega
      have hk0 : (0 : Int) ≤ (k : Int) := by omega
      have HTK := Lib.hid (take_succ_p xs k hlt)
      have HAC := Lib.hid ((HA.out.below HB.out).ac _ (gp_mem xs k hlt))
      have HLN := Lib.hid (HZ.out _ (gp_mem xs k hlt))
      generalize gp xs k = x at q0 q1 q2 q3 q4 HTK HAC HLN
      obtain ⟨m, pa, pc⟩ := x
      dsimp only at q0 q1 q2 q3 q4
      have HTK2 := Lib.hid (show (fst xs).take (k + 1) = (fst xs).take k ++ [m] from HTK.out)
      clear HTK

      obtain ⟨wz, hwzz⟩ : ∃ wz, wr = wz := ⟨_, rfl⟩
      subst hwzz
      have HO1 := HO
      have HW1 := HW
      have HX1 := HX
      have HR1 := HR
      have HT1 := HT
      have HB1 := HB
      have HAC1 := HAC
      have HC := Lib.hid HW.out.lt
      have HQ := Lib.hid (show ∀ wx, Below wr.heap.size wr wx → _ ∧ _ ∧ _ ∧ _ ∧ _ from fun wx h => ⟨keep q0 h, keep q1 h, keep q2 h, keep q3 h, keep q4 h⟩)
      have x0 : wr.cell? ⟨w.heap.size, 0, none⟩ = some (.slice (some ⟨b, off, none⟩) xs.length c) := cell_of HX.out 0 _ rfl
      have t0 : wr.cell? ⟨w.heap.size + 1 + 1, 0, none⟩ = some u := cell_of HT1.out 0 _ rfl
      have HU1 := Lib.hid (own_blk HO1.out HT1.out (by decide))
      have HU2 := Lib.hid (own_blk HO1.out HX1.out (by decide))
      obtain ⟨b', off', hbq, hq', _⟩ := at_p HA.out.ms k hlt
      have hb' : b' < w.heap.size := World.block_lt_of_cell? _ _ hq'
      cases hbq
      have hol := HO1.out.lt
      have HU3 := Lib.hid (show u.ownBlock ≠ some b from fun e => by have := (hol _ e).1; omega)
      clear HO HW HX HR HT HB HAC hol hb' hq' 
      have HBS := Lib.hid (show ∀ wx, Below wr.heap.size wr wx → wx.cell? ⟨w.heap.size + 1 + 1, 0, none⟩ = some u ∧ wx.cell? ⟨w.heap.size, 0, none⟩ = some (.slice (some ⟨b, off, none⟩) xs.length c) ∧ wx.cell? ⟨b, off + k * 5, none⟩ = some (.string m.nm) ∧ wx.cell? ⟨b, off + k * 5 + 1, none⟩ = some (.int .u8 m.ro) ∧ wx.cell? ⟨b, off + k * 5 + 2, none⟩ = some (.bool m.su) ∧ wx.cell? ⟨b, off + k * 5 + 3, none⟩ = some (.int .i64 m.lim) ∧ wx.cell? ⟨b, off + k * 5 + 4, none⟩ = some (.slice pa m.ac.length pc) from fun wx h => ⟨cell_of (blk_keep HT1.out h) 0 _ rfl, cell_of (blk_keep HX1.out h) 0 _ rfl, (HQ.out wx h).1, (HQ.out wx h).2.1, (HQ.out wx h).2.2.1, (HQ.out wx h).2.2.2.1, (HQ.out wx h).2.2.2.2⟩)
      have HTW0 := fun wx (h : Below wr.heap.size wr wx) => rtwin_any (m, (pa, pc)) wx HLN.out (HAC1.out.below h)
      dsimp only at HTW0
      have HTW := Lib.hid HTW0
      clear HTW0
      have k0 : Below wr.heap.size wr wr := Below.refl _ _
      have kd := k0.drew
      go_wp2_with fail
      go_region_law (first
          | (refine step_append_L (P := Try.prog) (α := P) rfl _ _ _ rfl 30 (Value.agg #[.string ⟨#[]⟩, .int .u8 0, .bool false, .int .i64 0, .slice none 0 0]) 5 56 Try.underlying22 info_mec rfl (by decide) w.heap.size mec u ys (m, (a5, c5)) w5.heap.size #[.string m.nm, .int .u8 m.ro, .bool m.su, .int .i64 m.lim, .slice a5 m.ac.length c5] (by rfl) (by rfl) (by first | exact HO5.out.below ((Below.refl _ _).alloc (Nat.le_refl _) _) | exact HO5.out.below ((Below.refl _ _).drew.alloc (Nat.le_refl _) _) | exact HO5.out.below ((Below.refl _ _).alloc (Nat.le_refl _) _).drew) (by first | exact blk_new _ _ | exact blk_new w5 _) rfl rfl (mec_one _) (by rw [HYL.out]; unfold maxLen; omega) (by rw [HYL.out]; omega) (by simp; omega) ?_; intro g9 c9 w9 ho9 hg9 hat9; have HE := Lib.hid (app_end (m := m) (OUT := w.heap.size + 1 + 1) HO5.out HW5.out HN5.out HB1.out.size HC.out (by first | exact (Below.refl _ _).alloc (Nat.le_refl _) _ | exact ((Below.refl _ _).alloc (Nat.le_refl _) _).drew | exact (Below.refl _ _).drew.alloc (Nat.le_refl _) _) hg9 ho9 HT5.out); have n0 := cell_of HE.out.1 0 _ rfl; have nf := frozen_of HE.out.1 0)
          | (go_simp; go_at_call 36; refine (HTW.out _ (by first | assumption | exact Below.drew (by assumption))).mono ?_; rintro e w5 ⟨a5, c5, rfl, ho5, hb5⟩; have k5 : Below wr.heap.size wr w5 := bt (by first | assumption | exact Below.drew (by assumption)) hb5 (Nat.le_refl _); have HO5 := Lib.hid (HO1.out.below k5); have HW5 := Lib.hid (HW1.out.below k5); have HT5 := Lib.hid (blk_keep HT1.out k5); have HN5 := Lib.hid (show OwnL w5 wr.heap.size 32 4 acc (.slice a5 m.ac.length c5) m.ac from ho5); have hT5 := blk_lt HT5.out; have t5 := cell_of HT5.out 0 _ rfl))
      all_goals
        have hwa : Below w5.heap.size w5 (w5.alloc (.cells #[.string m.nm, .int .u8 m.ro, .bool m.su, .int .i64 m.lim, .slice a5 m.ac.length c5] 30)) := (Below.refl _ _).alloc (Nat.le_refl _) _
        have HXF := Lib.hid (HE.out.2.2.2.2 w.heap.size _ (blk_keep HX1.out k5) (by omega))
        have HRF := Lib.hid (HE.out.2.2.2.2 (w.heap.size + 1) _ (blk_keep HR1.out k5) (by omega))
        have HBF : Hid (Below w.heap.size w (w9.setCell ⟨w.heap.size + 1 + 1, 0, none⟩ (.slice (some ⟨g9, 0, none⟩) (ys.length + 1) c9))) := by
          refine Below.setCell (p := ⟨w.heap.size + 1 + 1, 0, none⟩) ?_ (by show w.heap.size ≤ w.heap.size + 1 + 1; omega) _
          first
            | exact ((bt HB1.out k5 (Nat.le_refl _)).trans (hwa.mono (by omega))).grown hg9 (by simp; omega) (fun j hj => (HO5.out.lt j hj).1)
            | exact ((bt HB1.out k5 (Nat.le_refl _)).trans (hwa.drew.mono (by omega))).grown hg9 (by simp; omega) (fun j hj => (HO5.out.lt j hj).1)
        have HFS := Lib.hid (show fst (ys ++ [(m, (a5, c5))]) = (fst xs).take (k + 1) by rw [HTK2.out, ← HY.out]; simp [fst])
        clear hg9 ho9 hat9 hwa
        go_wp2
        go_roundw
        case rel => exact ⟨k + 1, _, _, by omega, by go_num, HFS, HE.out.2.2.1, HE.out.2.2.2.1, HXF, HRF, HE.out.2.1, HBF⟩
        case measure => simp [intOf]; omega
    · obtain rfl : k = xs.length := by omega
      obtain ⟨ao, co, rfl, _, _, _⟩ := HO.out.read mec_len
      have HYF := Lib.hid (show fst ys = fst xs by rw [HY.out, List.take_of_length_le (by rw [fst_len]; omega)])
      have x0 : wr.cell? ⟨w.heap.size, 0, none⟩ = some (.slice a xs.length c) := cell_of HX.out 0 _ rfl
      have o0 : wr.cell? ⟨w.heap.size + 1 + 1, 0, none⟩ = some (.slice ao ys.length co) := cell_of HT.out 0 _ rfl
      have r0 := cell_of HR.out 0 _ rfl
      have f0 := frozen_of HR.out 0
      go_wp2_with fail
      have hS : ((wr.setCell ⟨w.heap.size + 1, 0, none⟩ (.slice ao ys.length co)).heap[w.heap.size + 1]? = some (.cells #[.slice ao ys.length co] 24 (0, 0))) := by
        have h := HR.out
        simp [World.setCell, Array.getElem?_modify, h]
      have s0 := cell_of hS 0 _ rfl
      have hO2 := HO.out.far (p := ⟨w.heap.size + 1, 0, none⟩) (own_blk HO.out HR.out (by decide)) (.slice ao ys.length co)
      have hW2 := HW.out.far (i := 0) HR.out (by decide) (.slice ao ys.length co)
      have hB2 := HB.out.setCell (p := ⟨w.heap.size + 1, 0, none⟩) (show w.heap.size ≤ w.heap.size + 1 by omega) (.slice ao ys.length co)
      refine bodyPost_ret (v := .agg #[.slice ao ys.length co]) (by simp [results, Try.results12, go_sem, s0]) rfl ⟨ao, co, ys, by rw [HYL.out], HYF.out, ⟨hO2, hW2⟩, hB2⟩

end Go.Proofs.Ytoemjpfoddeinaa.Mb
