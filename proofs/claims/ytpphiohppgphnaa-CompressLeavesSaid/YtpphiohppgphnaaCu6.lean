/-
  Compress: the walk of back.
-/
import Derived.Test.YtpphiohppgphnaaCu8
import Derived.Sort.LoopGhostIn
import Derived.Sort.CutIn
import Derived.Sort.QuietIn
import Derived.Stop.RegionWithIn
import Derived.Shelf.RegionOpen
namespace Go.Proofs.Ytpphiohppgphnaa.Cs
open Go.RowKit Go.Proofs.Ytpphiohppgphnaa Go.Proofs.Ytpphiohppgphnaa.Ls Go.Proofs.Ytpphiohppgphnaa.Kb Go.Proofs.Ytpphiohppgphnaa.Cz
open Go.Proofs.Ytpphiohppgphnaa.Nm hiding ret_bool ret_int hb'
attribute [local go_sem] Oper.semAt_some

theorem own_of_blk {w : World} {B g : Nat} {x : Int} (h : w.heap[g]? = some (.cells #[.int .i64 x] 3 (0, 0))) (hB : B ≤ g) : OwnL w B 3 1 ic (.slice (some ⟨g, 0, none⟩) 1 1) [x] :=
  ⟨by simp [ic], .inr ⟨g, 1, _, rfl, hB, h, Nat.le_refl _, by unfold maxLen; omega, by simp, by simp [ic]⟩⟩
theorem own_of_str {w : World} {B g : Nat} {x : ByteArray} (h : w.heap[g]? = some (.cells #[.string x] 9 (0, 0))) (hB : B ≤ g) : OwnL w B 9 1 sc (.slice (some ⟨g, 0, none⟩) 1 1) [x] :=
  ⟨by simp [sc], .inr ⟨g, 1, _, rfl, hB, h, Nat.le_refl _, by unfold maxLen; omega, by simp, by simp [sc]⟩⟩
/-- back's memory ahead of the loop -/
theorem bk_start {w w6 wx w7 : World} {a : Option Addr} {n cL i g o c b0 : Nat} {ta : ByteArray} (hw : b0 = w.heap.size) (hb6 : Below w.heap.size w w6) (hsz : w6.heap.size = b0 + 6)
    (y0 : w6.heap[b0]? = some (.cells #[.slice a n cL] 22 (0, 0))) (y1 : w6.heap[b0 + 1]? = some (.cells #[.int .i64 i] 3 (0, 0))) (y2 : w6.heap[b0 + 2]? = some (.cells #[.slice none 0 0] 38 (0, 0))) (y3 : w6.heap[b0 + 3]? = some (.cells #[.string ta] 9 (0, 0))) (y4 : w6.heap[b0 + 4]? = some (.cells #[.slice (some ⟨b0 + 3, 0, none⟩) 1 1] 59 (0, 0)))
    (hx : Below w6.heap.size w6 wx) (hk : KeptR wx w7 (fun b => some b = some (b0 + 5) ∨ some b = none)) (hT : OwnL w7 b0 3 1 ic (.slice (some ⟨b0 + 6, 0, none⟩) 1 1) [(i : Int)])
    (hq : w7.heap[b0 + 5]? = some (.cells #[.slice (some ⟨g, o, none⟩) 1 c] 67 (0, 0))) (hO : OffL w7 b0 70 2 wyc (.slice (some ⟨g, o, none⟩) 1 c) [(⟨ta, some ⟨b0 + 6, 0, none⟩, 1, 1⟩ : Wy)]) :
    BkM w b0 (b0 + 1 + 1 + 1 + 1) (b0 + 1 + 1 + 1 + 1 + 1) a n cL i (.slice none 0 0) [] [ta] [(⟨ta, some ⟨b0 + 6, 0, none⟩, 1, 1⟩, [i])] w7 := by
  have hm : ∀ {b : Nat} {ob : Obj}, w6.heap[b]? = some ob → b ≠ b0 + 5 → w7.heap[b]? = some ob := fun h hne => hk.blk (blk_keep h hx) (fun e => by rcases e with e | e; exact hne (Option.some.inj e); cases e)
  refine ⟨hk.below (bt hb6 hx (Nat.le_refl _)) (fun b e => by rcases e with e | e; (have := Option.some.inj e; omega); cases e), by omega, hm y0 (by omega), hm y1 (by omega), hm y2 (by omega), ⟨_, _, hm y4 (by omega), own_of_str (hm y3 (by omega)) (by omega), fun b hb => by cases hb⟩, ⟨_, _, hq, hO, fun b hb => by cases hb⟩, fun x hx => ?_⟩
  obtain rfl := List.mem_singleton.1 hx
  exact ⟨hT, rfl⟩
theorem kept2_cell {v w : World} {r1 r2 : Option Nat} {p : Addr} {u : Value} (h : Kept2 v w r1 r2) (hc : v.cell? p = some u) (h1 : some p.block ≠ r1) (h2 : some p.block ≠ r2) : w.cell? p = some u :=
  (World.cell?_of_block (h.block p.block (World.block_lt_of_cell? _ _ hc) h1 h2)).trans hc
set_option maxRecDepth 100000 in
set_option maxHeartbeats 4000000 in
theorem back_any (a : Option Addr) (cL : Nat) (l : List Tr) (i : Nat) (r : List Nat) (w : World) (hn : l.length ≤ 1000) (hi : i < l.length) (hne : (gt l i).fr ≠ (gt l i).to_) (hA : AtL w 4 trc a l) (hr : Back l i r) :
    Calls Try.prog 37 #[.slice a l.length cL, .int .i64 i] w fun e w' => ∃ a' c', e = .returned (.slice a' r.length c') ∧ (r = [] → a' = none) ∧ OwnL w' w.heap.size 3 1 ic (.slice a' r.length c') (il r) ∧ Below w.heap.size w w' := by
  have hii : (i : Int) < l.length := by omega
  have hi0 : (0 : Int) ≤ (i : Int) := by omega
  obtain ⟨lb, lo, rfl, q0, q1, q2, q3⟩ := at_tr hA i hi
  have hlb := World.block_lt_of_cell? _ _ q0
  have hb3 : Below w.heap.size w (((w.alloc (.cells #[.slice (some ⟨lb, lo, none⟩) l.length cL] 22)).alloc (.cells #[.int .i64 i] 3)).alloc (.cells #[.slice none 0 0] 38)) := (((Below.refl _ _).alloc (Nat.le_refl _) _).alloc (by simp) _).alloc (by simp <;> omega) _
  have k1 := keep q1 hb3
  have k2 := keep q2 hb3
  have HA := Lib.hid hA
  have HR := Lib.hid hr
  have HNE := Lib.hid hne
  clear hA hr hne
  refine (callsIn_wide (n := 9)).1 ?_
  refine callsIn_of_wp_marks Try.func37 rfl trivial ?_ rfl
  simp only [Try.ntmps37, List.size_toArray, List.length_cons, List.length_nil, Nat.reduceAdd, Nat.reduceSub, Array.replicate_succ, Array.replicate_zero, List.push_toArray, List.append_toArray, List.nil_append, List.cons_append]
  refine wpIn_wide.2 ?_
  go_wp2_with fail
  have hb6 : Below w.heap.size w ((((((w.alloc (.cells #[.slice (some ⟨lb, lo, none⟩) l.length cL] 22)).alloc (.cells #[.int .i64 i] 3)).alloc (.cells #[.slice none 0 0] 38)).alloc (.cells #[.string (gt l i).to_] 9)).alloc (.cells #[.slice (some ⟨w.heap.size + 1 + 1 + 1, 0, none⟩) 1 1] 59)).alloc (.cells #[.slice none 0 0] 67)) :=
    (((hb3.alloc (by simp <;> omega) _).alloc (by simp <;> omega) _).alloc (by simp <;> omega) _)
  have g0 : ∀ o1 o2 o3 o4 o5 o6 : Obj, ((((((w.alloc o1).alloc o2).alloc o3).alloc o4).alloc o5).alloc o6).heap[w.heap.size]? = some o1 ∧ ((((((w.alloc o1).alloc o2).alloc o3).alloc o4).alloc o5).alloc o6).heap[w.heap.size + 1]? = some o2 ∧ ((((((w.alloc o1).alloc o2).alloc o3).alloc o4).alloc o5).alloc o6).heap[w.heap.size + 1 + 1]? = some o3 ∧
      ((((((w.alloc o1).alloc o2).alloc o3).alloc o4).alloc o5).alloc o6).heap[w.heap.size + 1 + 1 + 1]? = some o4 ∧ ((((((w.alloc o1).alloc o2).alloc o3).alloc o4).alloc o5).alloc o6).heap[w.heap.size + 1 + 1 + 1 + 1]? = some o5 ∧ ((((((w.alloc o1).alloc o2).alloc o3).alloc o4).alloc o5).alloc o6).heap[w.heap.size + 1 + 1 + 1 + 1 + 1]? = some o6 ∧
      ((((((w.alloc o1).alloc o2).alloc o3).alloc o4).alloc o5).alloc o6).heap.size = w.heap.size + 1 + 1 + 1 + 1 + 1 + 1 := fun o1 o2 o3 o4 o5 o6 => by
    have h3 := blk_three w o1 o2 o3
    have h6 := blk_three (((w.alloc o1).alloc o2).alloc o3) o4 o5 o6
    have e3 : (((w.alloc o1).alloc o2).alloc o3).heap.size = w.heap.size + 1 + 1 + 1 := by simp
    rw [e3] at h6
    exact ⟨blk_past _ _ (blk_past _ _ (blk_past _ _ h3.1)), blk_past _ _ (blk_past _ _ (blk_past _ _ h3.2.1)), blk_past _ _ (blk_past _ _ (blk_past _ _ h3.2.2)), h6.1, h6.2.1, h6.2.2, by simp⟩
  obtain ⟨y0, y1, y2, y3, y4, y5, hsz⟩ := g0 (.cells #[.slice (some ⟨lb, lo, none⟩) l.length cL] 22) (.cells #[.int .i64 i] 3) (.cells #[.slice none 0 0] 38) (.cells #[.string (gt l i).to_] 9) (.cells #[.slice (some ⟨w.heap.size + 1 + 1 + 1, 0, none⟩) 1 1] 59) (.cells #[.slice none 0 0] 67)
  clear g0 k1 k2 hb3
  generalize World.alloc _ _ = w6 at hb6 y0 y1 y2 y3 y4 y5 hsz ⊢
  have k1 := keep q1 hb6
  have HY := Lib.hid (And.intro y0 (And.intro y1 (And.intro y2 (And.intro y3 (And.intro y4 y5)))))
  have z0 := cell_of y0 0 _ rfl
  have z1 := cell_of y1 0 _ rfl
  change _ = some (Value.slice (some ⟨lb, lo, none⟩) l.length cL) at z0
  change _ = some (Value.int .i64 i) at z1
  clear y0 y1 y2 y3 y4 y5
  have HP := Lib.hid (fun (wx : World) (hx : Below w6.heap.size w6 wx) (x : Wy) => push_any (w.heap.size + 1 + 1 + 1 + 1 + 1) w.heap.size (.slice none 0 0) [] x wx (blk_keep HY.out.2.2.2.2.2 hx) (OffL.nil _ _ _ _ _) (by simp) (Nat.le_trans hb6.size hx.size))
  have HS := Lib.hid (show ∀ wx, Below w6.heap.size w6 wx → wx.cell? ⟨w.heap.size, 0, none⟩ = some (.slice (some ⟨lb, lo, none⟩) l.length cL) ∧ wx.cell? ⟨w.heap.size + 1, 0, none⟩ = some (.int .i64 i) ∧ wx.cell? ⟨lb, lo + i * 4 + 1, none⟩ = some (.string (gt l i).to_) from fun wx hx => ⟨keep z0 hx, keep z1 hx, keep k1 hx⟩)
  go_region_held3 (fun w' => w'.cell? ⟨w.heap.size, 0, none⟩ = some (.slice (some ⟨lb, lo, none⟩) l.length cL) ∧ w'.cell? ⟨w.heap.size + 1, 0, none⟩ = some (.int .i64 i) ∧ w'.cell? ⟨lb, lo + i * 4 + 1, none⟩ = some (.string (gt l i).to_)) (first | ((refine HS.out _ ?_); (repeat (first | with_reducible exact Below.refl _ _ | with_reducible refine below_al ?_ _ | with_reducible refine Below.drew ?_)); done) | go_keep)
    ((go_at_call 43; refine (HP.out _ (by (repeat (first | with_reducible exact Below.refl _ _ | with_reducible refine below_al ?_ _ | with_reducible refine Below.drew ?_))) ⟨(gt l i).to_, some ⟨w.heap.size + 1 + 1 + 1 + 1 + 1 + 1, 0, none⟩, 1, 1⟩).mono ?_; rintro e w7 ⟨rfl, g, o, c, hg1, hg2, hg3, hg4⟩; have HT := Lib.hid (own_of_blk (B := w.heap.size) ((KeptR.of_two hg3).blk (b := w.heap.size + 1 + 1 + 1 + 1 + 1 + 1) (o := .cells #[.int .i64 i] 3 (0, 0)) (by (repeat (first | ((with_reducible refine blk_at _ _ ?_); (first | with_reducible rfl | exact hsz.symm | (simp; done))) | with_reducible refine blk_past _ _ ?_ | with_reducible refine blk_drew ?_))) (by simp [Value.ownBlock])) (by omega)); have HM := Lib.hid (And.intro hg1 (And.intro hg2 (show ∃ wx, KeptR wx w7 (fun b => some b = some (w.heap.size + 5) ∨ some b = none) ∧ Below w6.heap.size w6 wx from ⟨_, KeptR.of_two hg3, by (repeat (first | with_reducible exact Below.refl _ _ | with_reducible refine below_al ?_ _ | with_reducible refine Below.drew ?_))⟩))); have t0 := kept2_cell hg3 (HS.out _ (by (repeat (first | with_reducible exact Below.refl _ _ | with_reducible refine below_al ?_ _ | with_reducible refine Below.drew ?_)))).1 (by simp <;> omega) (by simp [Value.ownBlock]); have t1 := kept2_cell hg3 (HS.out _ (by (repeat (first | with_reducible exact Below.refl _ _ | with_reducible refine below_al ?_ _ | with_reducible refine Below.drew ?_)))).2.1 (by simp <;> omega) (by simp [Value.ownBlock]); have t2 := kept2_cell hg3 (HS.out _ (by (repeat (first | with_reducible exact Below.refl _ _ | with_reducible refine below_al ?_ _ | with_reducible refine Below.drew ?_)))).2.2 (by simp <;> omega) (by simp [Value.ownBlock])))
  obtain ⟨hm1, hm2, wx, hm3, hm4⟩ := HM.out
  have HBK := Lib.hid (bk_start (ta := (gt l i).to_) rfl hb6 (by rw [hsz]) HY.out.1 HY.out.2.1 HY.out.2.2.1 HY.out.2.2.2.1 HY.out.2.2.2.2.1 hm4 hm3 HT.out hm1 hm2)
  clear hm1 hm2 hm3 hm4 HM HT HP HS HY hb6 hsz z0 z1 k1 t0 t1 t2 hg1 hg2 hg3 hg4
  have HIV := Lib.hid (inv_start HR.out HNE.out)
  have HBD := Lib.hid (Bnd.start l (gt l i).to_ ⟨(gt l i).to_, some ⟨w.heap.size + 6, 0, none⟩, 1, 1⟩ i)
  clear HR HNE wx
  go_wp2_with fail
  refine wp_loop_ghost_k (fun g a' wr => ∃ (u0 u1 u8 u9 u10 u11 u12 u13 u14 u15 u16 u17 u18 u19 u20 u21 u22 u23 u24 u25 u26 u27 u28 u29 u30 u31 u32 u33 u34 u35 u36 u37 u38 u39 u40 u41 u42 u43 u44 u45 u46 u47 u48 u49 u50 u51 u52 u53 u54 u55 u56 u57 u58 u59 u60 u61 u62 u63 u64 u65 u66 u67 u68 u69 u70 u71 u72 : Value) (ds : List Deferred), (∃ (seen : List ByteArray) (Q : List (Wy × List Nat)) (m : Nat) (Ds : List Nat), ds = Ds.map mark ∧ Hid (BkM w w.heap.size (w.heap.size + 1 + 1 + 1 + 1) (w.heap.size + 1 + 1 + 1 + 1 + 1) (some ⟨lb, lo, none⟩) l.length cL i (.slice none 0 0) [] seen Q wr) ∧ Hid (Inv l (gt l i).con (gt l i).fr r (wys Q) seen) ∧ Hid (Bnd l seen Q m) ∧ Hid (Mks w.heap.size wr.heap.size Ds wr) ∧ m < g ∧ m ≤ l.length + 1) ∧ a' = { tmps := #[u0, u1, .pointer (some ⟨w.heap.size, 0, none⟩), .pointer (some ⟨w.heap.size + 1, 0, none⟩), .pointer (some ⟨w.heap.size + 1 + 1, 0, none⟩), .string (gt l i).con, .pointer (some ⟨w.heap.size + 1 + 1 + 1 + 1, 0, none⟩), .pointer (some ⟨w.heap.size + 1 + 1 + 1 + 1 + 1, 0, none⟩), u8, u9, u10, u11, u12, u13, u14, u15, u16, u17, u18, u19, u20, u21, u22, u23, u24, u25, u26, u27, u28, u29, u30, u31, u32, u33, u34, u35, u36, u37, u38, u39, u40, u41, u42, u43, u44, u45, u46, u47, u48, u49, u50, u51, u52, u53, u54, u55, u56, u57, u58, u59, u60, u61, u62, u63, u64, u65, u66, u67, u68, u69, u70, u71, u72], defers := ds }) (l.length + 2) ?_ ?_
  · (repeat apply Exists.intro)
    refine ⟨⟨_, _, _, [], rfl, HBK, HIV, HBD, ⟨List.nodup_nil, fun D hD => (by cases hD)⟩, by omega, by omega⟩, rfl⟩
  · intro gk _ wr hinv
    clear HBK HIV HBD
    obtain ⟨u0, hinv⟩ := hinv
    obtain ⟨u1, hinv⟩ := hinv
    obtain ⟨u8, hinv⟩ := hinv
    obtain ⟨u9, hinv⟩ := hinv
    obtain ⟨u10, hinv⟩ := hinv
    obtain ⟨u11, hinv⟩ := hinv
    obtain ⟨u12, hinv⟩ := hinv
    obtain ⟨u13, hinv⟩ := hinv
    obtain ⟨u14, hinv⟩ := hinv
    obtain ⟨u15, hinv⟩ := hinv
    obtain ⟨u16, hinv⟩ := hinv
    obtain ⟨u17, hinv⟩ := hinv
    obtain ⟨u18, hinv⟩ := hinv
    obtain ⟨u19, hinv⟩ := hinv
    obtain ⟨u20, hinv⟩ := hinv
    obtain ⟨u21, hinv⟩ := hinv
    obtain ⟨u22, hinv⟩ := hinv
    obtain ⟨u23, hinv⟩ := hinv
    obtain ⟨u24, hinv⟩ := hinv
    obtain ⟨u25, hinv⟩ := hinv
    obtain ⟨u26, hinv⟩ := hinv
    obtain ⟨u27, hinv⟩ := hinv
    obtain ⟨u28, hinv⟩ := hinv
    obtain ⟨u29, hinv⟩ := hinv
    obtain ⟨u30, hinv⟩ := hinv
    obtain ⟨u31, hinv⟩ := hinv
    obtain ⟨u32, hinv⟩ := hinv
    obtain ⟨u33, hinv⟩ := hinv
    obtain ⟨u34, hinv⟩ := hinv
    obtain ⟨u35, hinv⟩ := hinv
    obtain ⟨u36, hinv⟩ := hinv
    obtain ⟨u37, hinv⟩ := hinv
    obtain ⟨u38, hinv⟩ := hinv
    obtain ⟨u39, hinv⟩ := hinv
    obtain ⟨u40, hinv⟩ := hinv
    obtain ⟨u41, hinv⟩ := hinv
    obtain ⟨u42, hinv⟩ := hinv
    obtain ⟨u43, hinv⟩ := hinv
    obtain ⟨u44, hinv⟩ := hinv
    obtain ⟨u45, hinv⟩ := hinv
    obtain ⟨u46, hinv⟩ := hinv
    obtain ⟨u47, hinv⟩ := hinv
    obtain ⟨u48, hinv⟩ := hinv
    obtain ⟨u49, hinv⟩ := hinv
    obtain ⟨u50, hinv⟩ := hinv
    obtain ⟨u51, hinv⟩ := hinv
    obtain ⟨u52, hinv⟩ := hinv
    obtain ⟨u53, hinv⟩ := hinv
    obtain ⟨u54, hinv⟩ := hinv
    obtain ⟨u55, hinv⟩ := hinv
    obtain ⟨u56, hinv⟩ := hinv
    obtain ⟨u57, hinv⟩ := hinv
    obtain ⟨u58, hinv⟩ := hinv
    obtain ⟨u59, hinv⟩ := hinv
    obtain ⟨u60, hinv⟩ := hinv
    obtain ⟨u61, hinv⟩ := hinv
    obtain ⟨u62, hinv⟩ := hinv
    obtain ⟨u63, hinv⟩ := hinv
    obtain ⟨u64, hinv⟩ := hinv
    obtain ⟨u65, hinv⟩ := hinv
    obtain ⟨u66, hinv⟩ := hinv
    obtain ⟨u67, hinv⟩ := hinv
    obtain ⟨u68, hinv⟩ := hinv
    obtain ⟨u69, hinv⟩ := hinv
    obtain ⟨u70, hinv⟩ := hinv
    obtain ⟨u71, hinv⟩ := hinv
    obtain ⟨u72, hinv⟩ := hinv
    obtain ⟨ds, hrel, ha⟩ := hinv
    subst ha
    obtain ⟨seen, Q, m, Ds, rfl, HBK, HIV, HBD, HMK, hmg, hml⟩ := hrel
    intro J K hJ hK
    obtain ⟨qa, qc, hq1, hq2, _⟩ := HBK.out.qu
    have HQ1 := Lib.hid hq1
    have HQ2 := Lib.hid hq2
    clear hq2
    have zq := cell_of hq1 0 _ rfl
    have zr := cell_of HBK.out.r4 0 _ rfl
    have HRS2 := Lib.hid HBK.out.r4
    have fr4 := frozen_of HBK.out.r4 0
    have zl := cell_of HBK.out.l2 0 _ rfl
    change _ = some (Value.slice qa Q.length qc) at zq
    change _ = some (Value.slice none 0 0) at zr
    change _ = some (Value.slice (some ⟨lb, lo, none⟩) l.length cL) at zl
    clear hq1
    cases Q with
    | nil =>
      have HE := Lib.hid (inv_empty HIV.out)
      clear HIV HBD HQ1 HQ2 hmg
      have HRS := Lib.hid (HBK.out.result (.slice none 0 0))
      clear HBK
      go_wp2_with fail
      refine back_end (S := wr.heap.size) (R := []) rfl HRS.out.1 HRS.out.2.1 (OwnL.nil _ _ _ _ _) (HMK.out.soft (B1 := 0) (B2 := 0) ?_) HE.out (fun _ => rfl) (fun w' v h => by simp [results, Try.results37, go_sem, h])
      exact ⟨_, HRS.out.2.2.1, fun b e => by subst e; exact ⟨⟨_, _, HRS2.out⟩, by omega, by omega, by omega⟩⟩
    | cons x Q =>
      obtain ⟨⟨p, ta, tn, tc⟩, xt⟩ := x
      have hqf := HBD.out.qf
      simp only [List.length_cons] at hqf zq
      rw [List.length_cons] at HQ1 HQ2
      have HP := Lib.hid (pop_any (w.heap.size + 1 + 1 + 1 + 1 + 1) w.heap.size _ (Q.map Prod.fst) ⟨p, ta, tn, tc⟩ wr HQ1.out HQ2.out (by rw [List.length_map]; omega))
      have hq0 : (0 : Int) < (Q.length : Int) + 1 := by omega
      go_wp2_with fail
      refine HP.out.mono ?_
      rintro e w1 ⟨rfl, qa1, qc1, hq3, hq4, hk4⟩
      rw [List.length_map] at hq3 hq4
      obtain ⟨hm1, hint1, hkb1⟩ := HBK.out.popped HQ1.out HQ2.out hk4 (by omega) hq3 hq4 rfl
      have HM1 := Lib.hid hm1
      have HT1 := Lib.hid (And.intro (hint1 (HBK.out.tr _ (List.mem_cons_self ..)).1) (HBK.out.tr _ (List.mem_cons_self ..)).2)
      have HK1 := Lib.hid (HMK.out.kept (S' := w1.heap.size) (fun b cs hb => hkb1 b (blk_lt hb) (fun e => by subst e; rw [HQ1.out] at hb; cases hb)) hk4.size)
      have HBP := Lib.hid HBD.out.pop
      have HIP := Lib.hid (inv_pop HIV.out)
      clear hm1 hint1 hkb1 hq3 hq4 hk4 HP HQ1 HQ2 HBK HMK HBD HIV HRS2 zq zl fr4 zr hq0
      obtain ⟨X, hX⟩ : ∃ X, X = w1.heap.size := ⟨_, rfl⟩
      have zl1 := cell_of HM1.out.l2 0 _ rfl
      change _ = some (Value.slice (some ⟨lb, lo, none⟩) l.length cL) at zl1
      have hXb : X < (w1.alloc (.cells #[.string p, .slice ta tn tc] 70)).heap.size := by rw [World.size_alloc, hX]; exact Nat.lt_succ_self _
      have HXW := Lib.hid (blk_new w1 (.cells #[.string p, .slice ta tn tc] 70))
      have HXB := Lib.hid ((Below.refl w1.heap.size w1).alloc (Nat.le_refl _) (.cells #[.string p, .slice ta tn tc] 70))
      have HX := Lib.hid hX
      rw [← hX] at HXW
      have hbX : w.heap.size + 1 + 1 + 1 + 1 + 1 < X := by have := blk_lt HM1.out.qu.choose_spec.choose_spec.1; omega
      clear hX
      have zl2 := keep zl1 HXB.out
      have zx0 := cell_of (blk_new w1 (.cells #[.string p, .slice ta tn tc] 70)) 0 _ rfl
      change _ = some (Value.string p) at zx0
      go_wp2_with fail
      have hs2 : (w1.alloc (.cells #[.string p, .slice ta tn tc] 70)).heap.size = X + 1 := by rw [World.size_alloc, HX.out]
      rw [← HX.out]
      generalize w1.alloc _ = w2 at HXW HXB zl2 zx0 hXb hs2 ⊢
      refine (owed_any _ _ _ _ _ w2).mono ?_
      rintro e w3 ⟨rfl, g0, g1, g2, hs3, hb3⟩
      rw [hs2] at g0 g1 g2 hs3 ⊢
      have HG := Lib.hid (And.intro g0 (And.intro g1 g2))
      have hb13 : Below w1.heap.size w1 w3 := bt HXB.out hb3 (Nat.le_refl _)
      have HW3 := Lib.hid (blk_keep HXW.out hb3)
      have HM3 := Lib.hid ((HM1.out.avoid (av' := [X + 1 + 1, X + 1 + 1 + 1, X]) (fun b hb => by simp only [List.mem_cons, List.not_mem_nil, or_false] at hb; have := HX.out; rcases hb with rfl | rfl | rfl <;> omega)).below hb13)
      have HT3 := Lib.hid (HT1.out.1.below hb13)
      have HTN := Lib.hid HT1.out.2
      have HK3 := Lib.hid (HK1.out.kept (S' := X + 1 + 1 + 1 + 1) (fun b cs hb => hb13.block b (blk_lt hb)) (by have := HX.out; omega))
      have HB13 := Lib.hid hb13
      clear g0 g1 g2 hb3 hb13 HXW HXB zl2 zx0 hXb hs2 HT1 HK1 HM1 zl1 HX
      go_wp2_with fail
      have hl0 : 0 < l.length := by omega
      refine (wpIn_wide (n := 9)).1 ?_
      refine wpIn_rangeFunc_ownH (F := Fence.wide) rfl (by omega) (gf := 49) (lb := #[.pointer (some ⟨X + 1, 0, none⟩), .pointer (some ⟨X + 1 + 1, 0, none⟩), .pointer (some ⟨X + 1 + 1 + 1, 0, none⟩)]) rfl trivial (enters_of Try.func49 (by kernel_rfl) rfl)
        (owed_stops (some ⟨lb, lo, none⟩) cL l (gt l i).con p (X + 1) (X + 1 + 1) (X + 1 + 1 + 1) 8 w w3 (by omega) (by omega) HA.out HM3.out.bel HG.out.1 HG.out.2.1 HG.out.2.2) (fun h k => h.t k) (kpG_b HM3.out.bel.size (fun b hb => by simp only [List.mem_cons, List.not_mem_nil, or_false] at hb; omega)) (Below.refl _ _) (fun _ => rfl)
        (fun pre W => ∃ seen Q, Hid (BkI w w.heap.size (w.heap.size + 1 + 1 + 1 + 1) (w.heap.size + 1 + 1 + 1 + 1 + 1) X (X + 1 + 1) (X + 1 + 1 + 1) (X + 1 + 1 + 1 + 1) (some ⟨lb, lo, none⟩) l.length cL i l (gt l i).con (gt l i).fr r ⟨p, ta, tn, tc⟩ xt (m - 1) Ds pre seen Q W))
        (fun c' pre W => c' = .ret ∧ ∃ R a' c', Hid (BkR w w.heap.size (X + 1 + 1 + 1 + 1) l (gt l i).con p r Ds pre R a' c' W))
        (fun pre A B row h hg hr => by obtain ⟨se, q, h⟩ := h; exact ⟨se, q, h.out.own hg (fun b e => by have := hr b e; rw [hs3] at this; exact this) (by omega)⟩)
        (fun c' pre A B row h hg hr => by obtain ⟨h0, R, a', c', h⟩ := h; exact ⟨h0, R, a', c', h.out.kept hg (fun b e => by have := hr b e; rw [hs3] at this; exact this) (by omega)⟩)
        ⟨seen, Q, ⟨HM3.out, innP_start HIP.out, HBP.out.1, HBP.out.2.2, HW3.out, HT3.out, HTN.out, HK3.out, by omega, by omega, by omega, ⟨by omega, by omega, by omega, by omega, by omega, by omega⟩⟩⟩
        (fun y a' W => ∃ Y : Nat, a' = { tmps := #[u0, u1, .pointer (some ⟨w.heap.size, 0, none⟩), .pointer (some ⟨w.heap.size + 1, 0, none⟩), .pointer (some ⟨w.heap.size + 1 + 1, 0, none⟩), .string (gt l i).con, .pointer (some ⟨w.heap.size + 1 + 1 + 1 + 1, 0, none⟩), .pointer (some ⟨w.heap.size + 1 + 1 + 1 + 1 + 1, 0, none⟩), .pointer (some ⟨X, 0, none⟩), .int .i64 (ix l y), .pointer (some ⟨Y, 0, none⟩), u11, u12, u13, u14, u15, u16, u17, u18, u19, u20, u21, u22, u23, u24, u25, u26, u27, u28, u29, u30, u31, .slice qa (Q.length + 1) qc, .int .i64 (Q.length + 1), .bool true, .agg #[.string p, .slice ta tn tc], .slice (some ⟨lb, lo, none⟩) l.length cL, .string (gt l i).con, .pointer (some ⟨X, 0, none⟩), .string p, .func (.func 49) #[] #[.pointer (some ⟨X + 1, 0, none⟩), .pointer (some ⟨X + 1 + 1, 0, none⟩), .pointer (some ⟨X + 1 + 1 + 1, 0, none⟩)], .int .i64 (ix l y), .agg #[.string (gt l (ix l y)).fr, .string (gt l (ix l y)).to_, .string (gt l (ix l y)).con, .int .i64 (gt l (ix l y)).amt], u43, u44, u45, u46, u47, u48, u49, u50, u51, u52, u53, u54, u55, u56, u57, u58, u59, u60, u61, u62, u63, u64, u65, u66, u67, u68, u69, u70, u71, u72], defers := [] } ∧ Hid (W.heap[Y]? = some (.cells #[.string (gt l (ix l y)).fr, .string (gt l (ix l y)).to_, .string (gt l (ix l y)).con, .int .i64 (gt l (ix l y)).amt] 31 (0, 0))))
        (fun y a' pre A B row h hg hr => by obtain ⟨Y, h0, h1⟩ := h; exact ⟨Y, h0, (KeptR.of_grown hg).blk h1.out (fun e => by obtain ⟨_, o, h2, h3⟩ := hr Y e.symm; rw [h1.out] at h2; cases h2; cases h3)⟩)
        ?assign ?body ?done ?stop
      case assign =>
        rintro lp pre y W K' ⟨se, q, hI⟩ hK'
        dsimp only [encT]
        gi_wp2_with fail
        have hal : Below W.heap.size W (W.alloc (.cells #[.string (gt l (ix l y)).fr, .string (gt l (ix l y)).to_, .string (gt l (ix l y)).con, .int .i64 (gt l (ix l y)).amt] 31)) := (Below.refl _ _).alloc (Nat.le_refl _) _
        exact hK' _ _ (hI.out.keeps (Soft.of_below hal) _).1 (hI.out.keeps (Soft.of_below hal) 0).2 ⟨se, q, hI.out.below hal⟩ ⟨_, rfl, blk_new _ _⟩
      case body =>
        rintro lp pre y _ W hlp _ ⟨se, q, hI⟩ ⟨Y, rfl, hY⟩ hlt
        have zx1 := cell_of hI.out.way 1 _ rfl
        change _ = some (Value.slice ta tn tc) at zx1
        have hxl : xt.length ≤ 1001 := by have := hI.out.xs; have := hI.out.bnd.sf; omega
        have HC := Lib.hid (clone_int ta tc (il xt) tn W (by rw [il_len]; exact hI.out.xn.symm) (by have := hI.out.xn; dsimp only at this; omega) (hI.out.tr.sl ic_len).1)
        gi_wp2_with fail
        refine ⟨trivial, (CallsIn.inRound lp (callsIn_wide.2 HC.out)).mono ?_⟩
        rintro e w4 ⟨ca, cc, rfl, ho4, hb4⟩
        have HO4 := Lib.hid (ho4.below ((Below.refl w4.heap.size w4).alloc (Nat.le_refl _) (.cells #[.int .i64 (ix l y)] 3)))
        have HX4 := Lib.hid (blk_new w4 (.cells #[.int .i64 (ix l y)] 3))
        have HB5 := Lib.hid (fun (w5 : World) (h : (w4.alloc (.cells #[.int .i64 (ix l y)] 3)).grownBy w5 (Value.slice ca tn cc).ownBlock) => copy_grew hb4 ho4 h)
        have HTL := Lib.hid (show (il xt).length = tn by rw [il_len]; exact hI.out.xn.symm)
        have htl : tn ≤ 1001 := by have := hI.out.xn; dsimp only at this; omega
        have hW4 : W.heap.size ≤ (w4.alloc (.cells #[.int .i64 (ix l y)] 3)).heap.size := by have := hb4.size; rw [World.size_alloc]; omega
        have zy1 := cell_of hY.out 1 _ rfl
        change _ = some (Value.string (gt l (ix l y)).to_) at zy1
        have zl0 := cell_of hI.out.m.l2 0 _ rfl
        change _ = some (Value.slice (some ⟨lb, lo, none⟩) l.length cL) at zl0
        have zs0 := cell_of hI.out.m.s3 0 _ rfl
        change _ = some (Value.int .i64 i) at zs0
        have zf0 := keep q0 hI.out.m.bel
        have HZ := Lib.hid (fun (w5 : World) (h : Below W.heap.size W w5) => show w5.cell? ⟨Y, 1, none⟩ = some (Value.string (gt l (ix l y)).to_) ∧ w5.cell? ⟨w.heap.size, 0, none⟩ = some (Value.slice (some ⟨lb, lo, none⟩) l.length cL) ∧ w5.cell? ⟨w.heap.size + 1, 0, none⟩ = some (Value.int .i64 i) ∧ w5.cell? ⟨lb, lo + i * 4, none⟩ = some (Value.string (gt l i).fr) from ⟨keep zy1 h, keep zl0 h, keep zs0 h, keep zf0 h⟩)
        clear zy1 zl0 zs0 zf0 zx1 ho4 hb4 HC
        gi_wp2_with (gi_at_builtin; refine wpListIn_append_1 (w4.alloc (.cells #[.int .i64 (ix l y)] 3)) rfl _ _ _ rfl 3 (.int .i64 0) 8 Try.underlying38 info_int rfl (by decide) W.heap.size ic (.slice ca tn cc) (il xt) tn HTL.out (ix l y : Int) rfl (ic_one _) w4.heap.size _ rfl rfl HO4.out HX4.out rfl (by omega) hW4 ?_; intro g5 c5 w5 ho5 hg5 hat5; have HO5 := Lib.hid ho5; have hb5 := HB5.out w5 hg5; have HW5 := Lib.hid hb5; obtain ⟨zy1, zl0, zs0, zf0⟩ := HZ.out w5 hb5; clear ho5 hg5 hat5 hb5)
        obtain ⟨bq, hbq⟩ : ∃ b : Bool, ((gt l (ix l y)).to_.toList == (gt l i).fr.toList) = b := ⟨_, rfl⟩
        have hmx : Try.prog.follows .mixedOrders = true := by kernel_rfl
        have HBW := Lib.hid (Below.refl w5.heap.size w5)
        gi_cut [56] from 49 (fun v wx => v = .bool bq ∧ Hid (Below w5.heap.size w5 wx))
        case first =>
          gi_region_with_o (fail)
          all_goals
            gi_wp2
            gi_meet
            case rel => exact ⟨rfl, HBW.out.drew⟩
        case rest =>
          obtain ⟨rfl, HBC⟩ := hcut
          have hb5c := HBC.out
          have HBWC := Lib.hid (bt HW5.out hb5c (Nat.le_refl _))
          have HOC := Lib.hid (HO5.out.below hb5c)
          have HIC := Lib.hid (hI.out.below HBWC.out)
          have zy1 := keep zy1 hb5c
          clear zl0 zs0 zf0 hb5c HBC HBW HO5 HB5 HZ HO4 HX4
          obtain ⟨⟨sa, sc_, hs1, hs2, hs3⟩, ⟨qa2, qc2, hqq1, hqq2, hqq3⟩⟩ := And.intro HIC.out.m.sn HIC.out.m.qu
          have zsn := cell_of hs1 0 _ rfl
          have fsn := frozen_of hs1 0
          have zr4 := cell_of HIC.out.m.r4 0 _ rfl
          have fr4 := frozen_of HIC.out.m.r4 0
          change _ = some (Value.slice sa se.length sc_) at zsn
          change _ = some (Value.slice none 0 0) at zr4
          have hbW : w.heap.size ≤ W.heap.size := by have := hI.out.m.bel.size; exact this
          have HXN := Lib.hid hI.out.xn
          cases bq
          · have HCN := Lib.hid (contains_str sa sc_ se se.length (gt l (ix l y)).to_ wc rfl (by have := HIC.out.bnd.sf; omega) (hs2.sl sc_len).1)
            have HNF := Lib.hid (show (gt l (ix l y)).to_ ≠ (gt l i).fr from fun e => by have := eq_yes e; rw [hbq] at this; cases this)
            gi_wp2_with fail
            refine ⟨trivial, (CallsIn.inRound lp (callsIn_wide.2 HCN.out)).mono ?_⟩
            rintro e w6 ⟨rfl, hb6⟩
            have HBW6 := Lib.hid (bt HBWC.out hb6 (Nat.le_refl _))
            have HI6 := Lib.hid (HIC.out.below hb6)
            obtain ⟨bi, hbi⟩ : ∃ b : Bool, inS se (gt l (ix l y)).to_ = b := ⟨_, rfl⟩
            have HIN := Lib.hid hbi
            rw [hbi]
            have hsn6 := Lib.hid (And.intro (blk_keep hs1 hb6) (And.intro (hs2.below hb6) (blk_keep hqq1 hb6)))
            have HO6 := Lib.hid (HOC.out.below hb6)
            have zy1 := keep zy1 hb6
            have zsn6 := keep zsn hb6
            clear zsn fsn hs1 hs2 hqq1 hqq2 zr4 fr4 hb6 HCN hbi hbq
            cases bi
            · have HX6 := Lib.hid (blk_new w6 (.cells #[.string (gt l (ix l y)).to_] 9))
              have hal6 : Below w6.heap.size w6 (w6.alloc (.cells #[.string (gt l (ix l y)).to_] 9)) := (Below.refl _ _).alloc (Nat.le_refl _) _
              have HI7 := Lib.hid (HI6.out.below hal6)
              have HO7 := Lib.hid ((HO6.out.below hal6).lower' hbW)
              have HS7 := Lib.hid (And.intro (blk_keep hsn6.out.1 hal6) (hsn6.out.2.1.below hal6))
              have HY7 := Lib.hid (blk_keep (blk_keep hY.out HBW6.out) hal6)
              have HBW7 := Lib.hid (bt HBW6.out hal6 (Nat.le_refl _))
              have hsl : se.length ≤ 1001 := by have := HI6.out.bnd.sf; omega
              have hb07 : w.heap.size ≤ (w6.alloc (.cells #[.string (gt l (ix l y)).to_] 9)).heap.size := HI7.out.m.bel.size
              have HHS := Lib.hid hs3
              have zy7 : (w6.alloc (.cells #[.string (gt l (ix l y)).to_] 9)).cell? ⟨Y, 1, none⟩ = some (Value.string (gt l (ix l y)).to_) := keep zy1 hal6
              clear hal6 hsn6 hs3
              gi_wp2_with (gi_at_builtin; refine wpListIn_append_1 (w6.alloc (.cells #[.string (gt l (ix l y)).to_] 9)) rfl _ _ _ rfl 9 (.string ⟨#[]⟩) 16 Try.underlying59 info_str rfl (by decide) w.heap.size sc (.slice sa se.length sc_) se se.length rfl (gt l (ix l y)).to_ rfl (sc_one _) w6.heap.size _ rfl rfl HS7.out.2 HX6.out rfl (by omega) hb07 ?_; intro g7 c7 w7 ho7 hg7 hat7; have HSD := Lib.hid (grown_side HS7.out.1 HS7.out.2 hg7 HY7.out (.slice (some ⟨g7, 0, none⟩) (se.length + 1) c7)); have HGR := Lib.hid (HI7.out.grown HS7.out.1 HS7.out.2 (by omega) HHS.out hg7 ho7 (hat7.imp id (fun e => Nat.le_of_eq e.symm))); have zsn7 : w7.cell? ⟨w.heap.size + 1 + 1 + 1 + 1, 0, none⟩ = some (.slice sa se.length sc_) := cell_of HSD.out.1 0 _ rfl; have fsn7 := frozen_of HSD.out.1 0; have zy8 : (w7.setCell ⟨w.heap.size + 1 + 1 + 1 + 1, 0, none⟩ (.slice (some ⟨g7, 0, none⟩) (se.length + 1) c7)).cell? ⟨Y, 1, none⟩ = some (Value.string (gt l (ix l y)).to_) := cell_of HSD.out.2 1 _ rfl; clear ho7 hg7 hat7)
              obtain ⟨qa3, qc3, hq1, hq2, hq3⟩ := HGR.out.1.qu
              have hqf3 : q.length ≤ 1001 := by have := HI7.out.bnd.qf; omega
              have hsz7 := HGR.out.1.bel.size
              have HPU := Lib.hid (push_any (w.heap.size + 1 + 1 + 1 + 1 + 1) w.heap.size _ (q.map Prod.fst) ⟨(gt l (ix l y)).to_, some ⟨g5, 0, none⟩, tn + 1, c5⟩ _ hq1 hq2 (by rw [List.length_map]; omega) hsz7)
              have HQQ := Lib.hid (And.intro hq1 (And.intro hq2 hq3))
              clear hq1 hq2 hq3 hsz7 hqf3
              refine ⟨trivial, (CallsIn.inRound lp (callsIn_wide.2 HPU.out)).mono ?_⟩
              rintro e w8 ⟨rfl, g8, o8, c8, hq8, ho8, hk8, hat8⟩
              rw [List.length_map] at hq8 ho8
              have HFI := Lib.hid (HI7.out.pushed (k := y) (p := (gt l (ix l y)).to_) (y := ⟨(gt l (ix l y)).to_, some ⟨g5, 0, none⟩, tn + 1, c5⟩) HGR.out.1 HGR.out.2.1 (fun ho => HGR.out.2.2.1 ho) HGR.out.2.2.2 HQQ.out.1 HQQ.out.2.1 HQQ.out.2.2 (by omega) hq8 ho8 hk8 hat8 hl0 rfl HNF.out HIN.out rfl (by rw [il_snoc]; exact HO7.out) (by rw [List.length_append, List.length_singleton]; have := HXN.out; dsimp only at this ⊢; omega))
              clear hq8 ho8 hk8 hat8
              gi_wp2_with fail
              have hk := hI.out.keeps ((Soft.of_below HBW7.out).trans HFI.out.2)
              exact ⟨(hk _).1, (hk 0).2, _, _, HFI.out.1⟩
            · gi_wp2_with fail
              have hk := hI.out.keeps (Soft.of_below HBW6.out)
              exact ⟨(hk _).1, (hk 0).2, se, q, HI6.out.seen_ HIN.out⟩
          · have HTF := Lib.hid (show (gt l (ix l y)).to_ = (gt l i).fr from str_ext (beq_iff_eq.1 hbq))
            clear hbq hs1 hs2 hqq1 hqq2 zsn fsn
            gi_wp2_with fail
            have hh := HIC.out.hit (k := y) HOC.out hbW rfl HTF.out
            exact ⟨(hI.out.keeps ((Soft.of_below HBWC.out).trans hh.1) _).1, rfl, _, _, _, hh.2⟩
      case done =>
        rintro D ys W hD rfl ⟨se, q, hI⟩ hDW
        rw [hs3] at hD
        dsimp only [Exit.inBlock, Exit.then]
        refine hK _ _ (Handed.intro (gk - 1) (by omega) (hJ _ _ _ ?_))
        (repeat apply Exists.intro)
        refine ⟨⟨se, q, m - 1, D :: Ds, rfl, hI.out.m.free, innP_end hI.out.inn, hI.out.bnd, hI.out.mks.cons hD (by omega) hDW hI.out.size, by omega, by omega⟩, rfl⟩
      case stop =>
        rintro D c' pre W hD hSp ⟨rfl, R, a', c', hR⟩ hDW
        rw [hs3] at hD
        have hsW := hR.out.bel.size
        have HRR := Lib.hid (hR.out.is hSp)
        have hDl := blk_lt hDW
        gi_wp2_with fail
        exact back_end (Ds := D :: Ds) rfl hR.out.cell hR.out.bel hR.out.own (hR.out.mks.cons hD (by omega) hDW (by omega)) HRR.out (fun e => absurd (HRR.out.symm.trans e) hR.out.ne) (fun w' v h => by simp [results, Try.results37, go_sem, h])
end Go.Proofs.Ytpphiohppgphnaa.Cs
