/-
  Member: the walks of twin and of the reference's TwinMember.
-/
import Derived.Test.YtoemjpfoddeinaaMb4
import Derived.Test.YtoemjpfoddeinaaMbA
namespace Go.Proofs.Ytoemjpfoddeinaa.Mb
open Go.RowKit Go.Proofs.Ytoemjpfoddeinaa Go.Proofs.Ytoemjpfoddeinaa.Ls Go.Proofs.Ytoemjpfoddeinaa.Kb
open Go.Proofs.Ytoemjpfoddeinaa.Nm hiding ret_bool ret_int

/-- a member as one value -/
def mv (m : Me) (a : Option Addr) (c : Nat) : Value := .agg #[.string m.nm, .int .u8 m.ro, .bool m.su, .int .i64 m.lim, .slice a m.ac.length c]
theorem set5 {w : World} {B : Nat} {a0 a1 a2 a3 a4 : Value} {t : TypeId} (h : w.heap[B]? = some (.cells #[a0, a1, a2, a3, a4] t (0, 0))) (x y z u v : Value) :
    (((((w.setCell ⟨B, 0, none⟩ x).setCell ⟨B, 1, none⟩ y).setCell ⟨B, 2, none⟩ z).setCell ⟨B, 3, none⟩ u).setCell ⟨B, 4, none⟩ v).heap[B]? = some (.cells #[x, y, z, u, v] t (0, 0)) := by
  simp [World.setCell, Array.getElem?_modify, h]
theorem set54 {w : World} {B : Nat} {a0 a1 a2 a3 a4 : Value} {t : TypeId} (h : w.heap[B]? = some (.cells #[a0, a1, a2, a3, a4] t (0, 0))) (v : Value) :
    (w.setCell ⟨B, 4, none⟩ v).heap[B]? = some (.cells #[a0, a1, a2, a3, v] t (0, 0)) := by
  simp [World.setCell, Array.getElem?_modify, h]
theorem set_other {w : World} {B C i : Nat} {o : Obj} (h : w.heap[B]? = some o) (hne : C ≠ B) (v : Value) : (w.setCell ⟨C, i, none⟩ v).heap[B]? = some o := by
  simp [World.setCell, Array.getElem?_modify, h, hne]

/-- what both copies end with -/
theorem twin_end {w w1 : World} {N : ByteArray} {ro lim : Int} {su : Bool} {n c : Nat} {a a' : Option Addr} {c' : Nat} {L : List Ac}
    (hX : w1.heap[w.heap.size]? = some (.cells #[.string N, .int .u8 ro, .bool su, .int .i64 lim, .slice a n c] 30 (0, 0)))
    (hY : w1.heap[w.heap.size + 1]? = some (.cells #[.string ⟨#[]⟩, .int .u8 0, .bool false, .int .i64 0, .slice none 0 0] 30 (0, 0)))
    (hO : OwnL w1 (w.heap.size + 2) 32 4 acc (.slice a' n c') L) (hB : Below w.heap.size w w1) :
    let w2 := w1.setCell ⟨w.heap.size, 4, none⟩ (.slice a' n c')
    let w3 := ((((w2.setCell ⟨w.heap.size + 1, 0, none⟩ (.string N)).setCell ⟨w.heap.size + 1, 1, none⟩ (.int .u8 ro)).setCell ⟨w.heap.size + 1, 2, none⟩ (.bool su)).setCell ⟨w.heap.size + 1, 3, none⟩ (.int .i64 lim)).setCell ⟨w.heap.size + 1, 4, none⟩ (.slice a' n c')
    w2.heap[w.heap.size]? = some (.cells #[.string N, .int .u8 ro, .bool su, .int .i64 lim, .slice a' n c'] 30 (0, 0)) ∧
    w2.heap[w.heap.size + 1]? = some (.cells #[.string ⟨#[]⟩, .int .u8 0, .bool false, .int .i64 0, .slice none 0 0] 30 (0, 0)) ∧
    w3.heap[w.heap.size + 1]? = some (.cells #[.string N, .int .u8 ro, .bool su, .int .i64 lim, .slice a' n c'] 30 (0, 0)) ∧
    OwnL w3 w.heap.size 32 4 acc (.slice a' n c') L ∧ Below w.heap.size w w3 := by
  intro w2 w3
  have h2 := set54 hX (.slice a' n c')
  have h3 := set_other (i := 4) hY (show w.heap.size ≠ w.heap.size + 1 by omega) (.slice a' n c')
  have hl := hO.lt
  have n0 : (Value.slice a' n c').ownBlock ≠ some w.heap.size := fun e => by have := (hl _ e).1; omega
  have n1 : (Value.slice a' n c').ownBlock ≠ some (w.heap.size + 1) := fun e => by have := (hl _ e).1; omega
  refine ⟨h2, h3, set5 h3 _ _ _ _ _, ?_, ?_⟩
  · exact ((((((hO.far (p := ⟨w.heap.size, 4, none⟩) n0 _).far (p := ⟨w.heap.size + 1, 0, none⟩) n1 _).far (p := ⟨w.heap.size + 1, 1, none⟩) n1 _).far (p := ⟨w.heap.size + 1, 2, none⟩) n1 _).far (p := ⟨w.heap.size + 1, 3, none⟩) n1 _).far (p := ⟨w.heap.size + 1, 4, none⟩) n1 _).lower' (by omega)
  · exact (((((hB.setCell (p := ⟨w.heap.size, 4, none⟩) (Nat.le_refl _) _).setCell (p := ⟨w.heap.size + 1, 0, none⟩) (Nat.le_succ _) _).setCell (p := ⟨w.heap.size + 1, 1, none⟩) (Nat.le_succ _) _).setCell (p := ⟨w.heap.size + 1, 2, none⟩) (Nat.le_succ _) _).setCell (p := ⟨w.heap.size + 1, 3, none⟩) (Nat.le_succ _) _).setCell (p := ⟨w.heap.size + 1, 4, none⟩) (Nat.le_succ _) _

set_option maxRecDepth 100000 in
set_option maxHeartbeats 4000000 in
theorem twin_any (x : P) (w : World) (hn : x.1.ac.length ≤ 1000) (hA : AtL w 4 acc x.2.1 x.1.ac) :
    Calls Try.prog 71 #[.agg #[.string x.1.nm, .int .u8 x.1.ro, .bool x.1.su, .int .i64 x.1.lim, .slice x.2.1 x.1.ac.length x.2.2]] w fun e w' => ∃ a' c', e = .returned (.agg #[.string x.1.nm, .int .u8 x.1.ro, .bool x.1.su, .int .i64 x.1.lim, .slice a' x.1.ac.length c']) ∧ OwnL w' w.heap.size 32 4 acc (.slice a' x.1.ac.length c') x.1.ac ∧ Below w.heap.size w w' := by
  obtain ⟨⟨N, ro, su, lim, L⟩, a, c⟩ := x
  dsimp only at *
  have HA := Lib.hid hA
  have HC := Lib.hid (fun wx (h : AtL wx 4 acc a L) => clone_acc a c L wx hn h)
  clear hA
  have hbo : Below w.heap.size w ((w.alloc (.cells #[.string N, .int .u8 ro, .bool su, .int .i64 lim, .slice a L.length c] 30)).alloc (.cells #[.string ⟨#[]⟩, .int .u8 0, .bool false, .int .i64 0, .slice none 0 0] 30)) := ((Below.refl _ _).alloc (Nat.le_refl _) _).alloc (by simp) _
  have HX := Lib.hid (blk_two w (.cells #[.string N, .int .u8 ro, .bool su, .int .i64 lim, .slice a L.length c] 30) (.cells #[.string ⟨#[]⟩, .int .u8 0, .bool false, .int .i64 0, .slice none 0 0] 30))
  have HSZ := Lib.hid (show ((w.alloc (.cells #[.string N, .int .u8 ro, .bool su, .int .i64 lim, .slice a L.length c] 30)).alloc (.cells #[.string ⟨#[]⟩, .int .u8 0, .bool false, .int .i64 0, .slice none 0 0] 30)).heap.size = w.heap.size + 2 by simp)
  go_enter Try.func71, Try.ntmps71
  go_wp2_with fail
  generalize (w.alloc _).alloc _ = wo at hbo HX HSZ ⊢
  refine (HC.out wo (HA.out.below hbo)).mono ?_
  rintro e w1 ⟨a', c', rfl, ho, hb1⟩
  rw [HSZ.out] at ho
  have HE := Lib.hid (twin_end (blk_keep HX.out.1 hb1) (blk_keep HX.out.2 hb1) ho (bt hbo hb1 (Nat.le_refl _)))
  have hx1 := blk_keep HX.out.1 hb1
  have x0 := cell_of hx1 0 _ rfl
  have x1 := cell_of hx1 1 _ rfl
  have x2 := cell_of hx1 2 _ rfl
  have x3 := cell_of hx1 3 _ rfl
  have x4 := cell_of hx1 4 _ rfl
  have xf := frozen_of hx1 4
  have hy1 := blk_keep HX.out.2 hb1
  have y0 := cell_of hy1 0 _ rfl
  have y1 := cell_of hy1 1 _ rfl
  have y2 := cell_of hy1 2 _ rfl
  have y3 := cell_of hy1 3 _ rfl
  have y4 := cell_of hy1 4 _ rfl
  have yf0 := frozen_of hy1 0
  have yf1 := frozen_of hy1 1
  have yf2 := frozen_of hy1 2
  have yf3 := frozen_of hy1 3
  have yf4 := frozen_of hy1 4
  have hz1 := blk_lt hx1
  clear hbo HX HSZ hb1 ho hx1 hy1 HC
  go_wp2_with fail
  obtain ⟨h2, h3, h4, h5, h6⟩ := HE.out
  have r0 := cell_of h4 0 _ rfl
  have r1 := cell_of h4 1 _ rfl
  have r2 := cell_of h4 2 _ rfl
  have r3 := cell_of h4 3 _ rfl
  have r4 := cell_of h4 4 _ rfl
  refine bodyPost_ret (v := .agg #[.string N, .int .u8 ro, .bool su, .int .i64 lim, .slice a' L.length c']) (by simp [results, Try.results71, go_sem, r0, r1, r2, r3, r4]) rfl ⟨a', c', rfl, h5, h6⟩
set_option maxRecDepth 100000 in
set_option maxHeartbeats 4000000 in
theorem rtwin_any (x : P) (w : World) (hn : x.1.ac.length ≤ 1000) (hA : AtL w 4 acc x.2.1 x.1.ac) :
    Calls Try.prog 36 #[.agg #[.string x.1.nm, .int .u8 x.1.ro, .bool x.1.su, .int .i64 x.1.lim, .slice x.2.1 x.1.ac.length x.2.2]] w fun e w' => ∃ a' c', e = .returned (.agg #[.string x.1.nm, .int .u8 x.1.ro, .bool x.1.su, .int .i64 x.1.lim, .slice a' x.1.ac.length c']) ∧ OwnL w' w.heap.size 32 4 acc (.slice a' x.1.ac.length c') x.1.ac ∧ Below w.heap.size w w' := by
  obtain ⟨⟨N, ro, su, lim, L⟩, a, c⟩ := x
  dsimp only at *
  have HA := Lib.hid hA
  clear hA
  have hbo : Below w.heap.size w ((w.alloc (.cells #[.string N, .int .u8 ro, .bool su, .int .i64 lim, .slice a L.length c] 30)).alloc (.cells #[.string ⟨#[]⟩, .int .u8 0, .bool false, .int .i64 0, .slice none 0 0] 30)) := ((Below.refl _ _).alloc (Nat.le_refl _) _).alloc (by simp) _
  have HX := Lib.hid (blk_two w (.cells #[.string N, .int .u8 ro, .bool su, .int .i64 lim, .slice a L.length c] 30) (.cells #[.string ⟨#[]⟩, .int .u8 0, .bool false, .int .i64 0, .slice none 0 0] 30))
  have hsz : ((w.alloc (.cells #[.string N, .int .u8 ro, .bool su, .int .i64 lim, .slice a L.length c] 30)).alloc (.cells #[.string ⟨#[]⟩, .int .u8 0, .bool false, .int .i64 0, .slice none 0 0] 30)).heap.size = w.heap.size + 1 + 1 := by simp
  have HSZ := Lib.hid hsz
  have HN := Lib.hid (blk_new ((w.alloc (.cells #[.string N, .int .u8 ro, .bool su, .int .i64 lim, .slice a L.length c] 30)).alloc (.cells #[.string ⟨#[]⟩, .int .u8 0, .bool false, .int .i64 0, .slice none 0 0] 30)) (.cells #[] 32))
  rw [hsz] at HN
  clear hsz
  go_enter Try.func36, Try.ntmps36
  go_wp2_with (at_builtin; refine wpList_append_LL (((w.alloc (.cells #[.string N, .int .u8 ro, .bool su, .int .i64 lim, .slice a L.length c] 30)).alloc (.cells #[.string ⟨#[]⟩, .int .u8 0, .bool false, .int .i64 0, .slice none 0 0] 30)).alloc (.cells #[] 32)) (P := Try.prog) (α := Ac) rfl _ _ _ rfl 32 (Value.agg #[.string ⟨#[]⟩, .bool false, .int .i64 0, .int .i64 0]) 4 40 Try.underlying28 info_acc rfl (by decide) (w.heap.size + 1 + 1) acc acc_len acc_one (.slice (some ⟨w.heap.size + 1 + 1, 0, none⟩) 0 0) [] L a c rfl rfl (OwnL.empty HN.out (Nat.le_refl _)) ((HA.out.below hbo).below ((Below.refl _ _).alloc (Nat.le_refl _) _)) (by simp only [List.length_nil, maxLen]; omega) (by simp only [List.length_nil]; omega) (by simp) ?_; intro a3 c3 w3 ho3 hg3; have hown : (Value.slice (some ⟨w.heap.size + 1 + 1, 0, none⟩) 0 0).ownBlock = some (w.heap.size + 1 + 1) := rfl; have hx3 := (hg3.block w.heap.size (by simp <;> omega) (by rw [hown]; intro e; have := Option.some.inj e; omega)).trans (blk_past _ _ HX.out.1); have hy3 := (hg3.block (w.heap.size + 1) (by simp) (by rw [hown]; intro e; have := Option.some.inj e; omega)).trans (blk_past _ _ HX.out.2); have hb3 : Below w.heap.size w w3 := (hbo.alloc (by rw [HSZ.out]; omega) _).grown hg3 (by simp; omega) (by intro k hk; rw [hown] at hk; have := Option.some.inj hk; omega); simp only [List.length_nil, Nat.zero_add, List.nil_append] at ho3 ⊢; have HE := Lib.hid (twin_end hx3 hy3 ho3 hb3); have HX3 := Lib.hid hx3; have HY3 := Lib.hid hy3; have x0 := cell_of hx3 0 _ rfl; have x1 := cell_of hx3 1 _ rfl; have x2 := cell_of hx3 2 _ rfl; have x3 := cell_of hx3 3 _ rfl; have x4 := cell_of hx3 4 _ rfl; have xf := frozen_of hx3 4; have y0 := cell_of hy3 0 _ rfl; have y1 := cell_of hy3 1 _ rfl; have y2 := cell_of hy3 2 _ rfl; have y3 := cell_of hy3 3 _ rfl; have y4 := cell_of hy3 4 _ rfl; have yf0 := frozen_of hy3 0; have yf1 := frozen_of hy3 1; have yf2 := frozen_of hy3 2; have yf3 := frozen_of hy3 3; have yf4 := frozen_of hy3 4; have hz3 := blk_lt hx3; clear hg3 hb3 ho3 hx3 hy3 hown)
  obtain ⟨h2, h3, h4, h5, h6⟩ := HE.out
  have r0 := cell_of h4 0 _ rfl
  have r1 := cell_of h4 1 _ rfl
  have r2 := cell_of h4 2 _ rfl
  have r3 := cell_of h4 3 _ rfl
  have r4 := cell_of h4 4 _ rfl
  refine bodyPost_ret (v := .agg #[.string N, .int .u8 ro, .bool su, .int .i64 lim, .slice a3 L.length c3]) (by simp [results, Try.results36, go_sem, r0, r1, r2, r3, r4]) rfl ⟨a3, c3, rfl, h5, h6⟩
end Go.Proofs.Ytoemjpfoddeinaa.Mb
