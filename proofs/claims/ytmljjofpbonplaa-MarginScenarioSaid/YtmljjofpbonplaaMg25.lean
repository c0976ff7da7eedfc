/-
  The walk of the law MarginNames.
-/
import Derived.Test.YtmljjofpbonplaaMgJ3
import Derived.Test.YtmljjofpbonplaaMg22
import Derived.Test.YtmljjofpbonplaaLs2
import Derived.Test.YtmljjofpbonplaaMg26
import Derived.Deep.RegionLaw
namespace Go.Proofs.Ytmljjofpbonplaa.Mg
open Go.RowKit Go.Proofs.Ytmljjofpbonplaa Go.Proofs.Ytmljjofpbonplaa.Nm Go.Proofs.Ytmljjofpbonplaa.Ls

/-- the example's grid, block by block -/
structure GridIs (w w' : World) : Prop where
  e1 : w'.heap[w.heap.size + 1]? = some (.cells #[.int .i64 1000, .int .i64 300] 3 (0, 0))
  e2 : w'.heap[w.heap.size + 1 + 1]? = some (.cells #[.int .i64 (-4), .int .i64 20] 3 (0, 0))
  e3 : w'.heap[w.heap.size + 1 + 1 + 1]? = some (.cells #[.string ⟨#[112]⟩, .slice (some ⟨w.heap.size + 1 + 1, 0, none⟩) 2 2, .int .i64 1] 54 (0, 0))
  hb : Below w.heap.size w w'
/-- such a grid with other numbers -/
def exH (wa pa ma : Addr) (w0 w1 m0 m1 fee : Int) (ml : Nat) : Gr := ⟨some wa, 2, 2, some pa, 1, 1, fun i => if i = 0 then w0 else w1, fun _ => ⟨⟨#[112]⟩, some ma, ml, 2, fun s => if s = 0 then m0 else m1, fee⟩⟩
theorem gr_of {w : World} {A M B ml : Nat} {w0 w1 m0 m1 fee : Int} {T U V : TypeId} (h1 : w.heap[A]? = some (.cells #[.int .i64 w0, .int .i64 w1] T (0, 0))) (h2 : w.heap[M]? = some (.cells #[.int .i64 m0, .int .i64 m1] U (0, 0)))
    (h3 : w.heap[B]? = some (.cells #[.string ⟨#[112]⟩, .slice (some ⟨M, 0, none⟩) ml 2, .int .i64 fee] V (0, 0))) (hml : ml ≤ 2 := by omega) : GrAt w (exH ⟨A, 0, none⟩ ⟨B, 0, none⟩ ⟨M, 0, none⟩ w0 w1 m0 m1 fee ml) := by
  refine ⟨by show 2 ≤ maxLen; unfold maxLen; omega, by show 1 ≤ maxLen; unfold maxLen; omega, fun i => ⟨by show 1 ≤ maxLen; unfold maxLen; omega, by show ml ≤ maxLen; unfold maxLen; omega⟩, fun i hi => ?_, fun i hi => ?_⟩
  · have hi : i < 2 := hi
    refine ⟨_, _, rfl, ?_⟩
    rcases (show i = 0 ∨ i = 1 by omega) with rfl | rfl
    · exact cell_of h1 0 _ rfl
    · exact cell_of h1 1 _ rfl
  · have hi : i < 1 := hi
    obtain rfl : i = 0 := by omega
    refine ⟨_, _, rfl, cell_of h3 0 _ rfl, cell_of h3 1 _ rfl, cell_of h3 2 _ rfl, fun s hs => ?_⟩
    have hs : s < ml := hs
    refine ⟨_, _, rfl, ?_⟩
    rcases (show s = 0 ∨ s = 1 by omega) with rfl | rfl
    · exact cell_of h2 0 _ rfl
    · exact cell_of h2 1 _ rfl
set_option maxRecDepth 100000 in
set_option maxHeartbeats 1000000 in
theorem grid_is (w : World) : Calls Try.prog 33 #[] w fun e w' => e = .returned (.agg #[.slice (some ⟨w.heap.size + 1, 0, none⟩) 2 2, .slice (some ⟨w.heap.size + 1 + 1 + 1, 0, none⟩) 1 1]) ∧ GridIs w w' := by
  go_enter Try.func33, Try.ntmps33
  go_wp2_with fail
  generalize hwn : World.alloc _ _ = wn
  have e0 : wn.heap[w.heap.size]? = some (.cells #[.slice (some ⟨w.heap.size + 1, 0, none⟩) 2 2, .slice (some ⟨w.heap.size + 1 + 1 + 1, 0, none⟩) 1 1] 25 (0, 0)) := by
    rw [← hwn]
    exact blk_past _ _ (blk_past _ _ (blk_past _ _ (blk_new w _)))
  have e1 : wn.heap[w.heap.size + 1]? = some (.cells #[.int .i64 1000, .int .i64 300] 3 (0, 0)) := by
    rw [← hwn]
    have := blk_past _ (.cells #[.string ⟨#[112]⟩, .slice (some ⟨w.heap.size + 1 + 1, 0, none⟩) 2 2, .int .i64 1] 54) (blk_past _ (.cells #[.int .i64 (-4), .int .i64 20] 3) (blk_new (w.alloc (.cells #[.slice (some ⟨w.heap.size + 1, 0, none⟩) 2 2, .slice (some ⟨w.heap.size + 1 + 1 + 1, 0, none⟩) 1 1] 25)) (.cells #[.int .i64 1000, .int .i64 300] 3)))
    simpa using this
  have e2 : wn.heap[w.heap.size + 1 + 1]? = some (.cells #[.int .i64 (-4), .int .i64 20] 3 (0, 0)) := by
    rw [← hwn]
    have := blk_past _ (.cells #[.string ⟨#[112]⟩, .slice (some ⟨w.heap.size + 1 + 1, 0, none⟩) 2 2, .int .i64 1] 54) (blk_new ((w.alloc (.cells #[.slice (some ⟨w.heap.size + 1, 0, none⟩) 2 2, .slice (some ⟨w.heap.size + 1 + 1 + 1, 0, none⟩) 1 1] 25)).alloc (.cells #[.int .i64 1000, .int .i64 300] 3)) (.cells #[.int .i64 (-4), .int .i64 20] 3))
    simpa using this
  have e3 : wn.heap[w.heap.size + 1 + 1 + 1]? = some (.cells #[.string ⟨#[112]⟩, .slice (some ⟨w.heap.size + 1 + 1, 0, none⟩) 2 2, .int .i64 1] 54 (0, 0)) := by
    rw [← hwn]
    have := blk_new (((w.alloc (.cells #[.slice (some ⟨w.heap.size + 1, 0, none⟩) 2 2, .slice (some ⟨w.heap.size + 1 + 1 + 1, 0, none⟩) 1 1] 25)).alloc (.cells #[.int .i64 1000, .int .i64 300] 3)).alloc (.cells #[.int .i64 (-4), .int .i64 20] 3)) (.cells #[.string ⟨#[112]⟩, .slice (some ⟨w.heap.size + 1 + 1, 0, none⟩) 2 2, .int .i64 1] 54)
    simpa using this
  have hb : Below w.heap.size w wn := by
    rw [← hwn]
    exact ((((Below.refl _ _).alloc (Nat.le_refl _) _).alloc (by simp) _).alloc (by simp; omega) _).alloc (by simp; omega) _
  have g0 := cell_of e0 0 _ rfl
  have g1 := cell_of e0 1 _ rfl
  clear hwn
  refine bodyPost_ret (v := .agg #[.slice (some ⟨w.heap.size + 1, 0, none⟩) 2 2, .slice (some ⟨w.heap.size + 1 + 1 + 1, 0, none⟩) 1 1]) (by simp [results, Try.results33, go_sem, g0, g1]) rfl ⟨rfl, ⟨e1, e2, e3, hb⟩⟩
theorem blk_new_set (x : World) (p : Addr) (v : Value) (o : Obj) : ((x.setCell p v).alloc o).heap[x.heap.size]? = some o := by
  have := blk_new (x.setCell p v) o
  simpa using this
theorem ck_grid (g : Gr) (w : World) (hG : GrAt w g) (b : Bool) (hb : gridB g.W g.nw g.P g.np = b) :
    Calls Try.prog 24 #[.agg #[.slice g.wa g.nw g.wc, .slice g.pa g.np g.pc]] w fun e w' => e = .returned (.int .i64 (errV b)) ∧ Below w.heap.size w w' := by
  subst hb
  exact checkGrid_any g.wa g.pa g.nw g.wc g.np g.pc g.W g.P w hG.nw hG.np hG.pd hG.ws hG.ps
theorem nil_pf {w : World} : PfAt w (pfl none 0 []) := pfl_at ⟨Nat.zero_le _, fun z hz => (by cases hz), fun z hz => (by cases hz)⟩ (AtL.nil _ _ _ _)
def pdc (p : PD) : List Value := [.string p.nm, .slice p.a p.len p.cap, .int .i64 p.fee]
theorem ok_two (s : ByteArray) (q : Int) (hs : s.size ≤ 40) (hq : -2000000 ≤ q ∧ q ≤ 2000000) : PLok [(s, q)] := by
  refine ⟨by show 1 ≤ maxLen; unfold maxLen; omega, fun z hz => ?_, fun z hz => ?_⟩
  · obtain rfl := List.mem_singleton.1 hz
    show s.size ≤ maxLen
    unfold maxLen
    omega
  · obtain rfl := List.mem_singleton.1 hz
    show i64R q
    unfold i64R
    omega
theorem pdc_len (p : PD) : (pdc p).length = 3 := rfl
/-- the example's grid with its product twice -/
def exJ (wa pa ma : Addr) (cap : Nat) : Gr := ⟨some wa, 2, 2, some pa, 2, cap, fun i => if i = 0 then 1000 else 300, fun _ => ⟨⟨#[112]⟩, some ma, 2, 2, fun s => if s = 0 then -4 else 20, 1⟩⟩
theorem gr_two {w : World} {A M B cap : Nat} {T U : TypeId} (h1 : w.heap[A]? = some (.cells #[.int .i64 1000, .int .i64 300] T (0, 0))) (h2 : w.heap[M]? = some (.cells #[.int .i64 (-4), .int .i64 20] U (0, 0)))
    (h3 : AtL w 3 pdc (some ⟨B, 0, none⟩) [⟨⟨#[112]⟩, some ⟨M, 0, none⟩, 2, 2, fun s => if s = 0 then -4 else 20, 1⟩, ⟨⟨#[112]⟩, some ⟨M, 0, none⟩, 2, 2, fun s => if s = 0 then -4 else 20, 1⟩]) : GrAt w (exJ ⟨A, 0, none⟩ ⟨B, 0, none⟩ ⟨M, 0, none⟩ cap) := by
  refine ⟨by show 2 ≤ maxLen; unfold maxLen; omega, by show 2 ≤ maxLen; unfold maxLen; omega, fun i => ⟨by show 1 ≤ maxLen; unfold maxLen; omega, by show 2 ≤ maxLen; unfold maxLen; omega⟩, fun i hi => ?_, fun i hi => ?_⟩
  · have hi : i < 2 := hi
    refine ⟨_, _, rfl, ?_⟩
    rcases (show i = 0 ∨ i = 1 by omega) with rfl | rfl
    · exact cell_of h1 0 _ rfl
    · exact cell_of h1 1 _ rfl
  · have hi : i < 2 := hi
    have hm : ∀ s, s < 2 → ∃ b off, (some ⟨M, 0, none⟩ : Option Addr) = some ⟨b, off, none⟩ ∧ w.cell? ⟨b, off + s, none⟩ = some (.int .i64 (if s = 0 then -4 else 20)) := fun s hs => by
      refine ⟨_, _, rfl, ?_⟩
      rcases (show s = 0 ∨ s = 1 by omega) with rfl | rfl
      · exact cell_of h2 0 _ rfl
      · exact cell_of h2 1 _ rfl
    rcases (show i = 0 ∨ i = 1 by omega) with rfl | rfl
    · obtain ⟨b', o', e, hc⟩ := h3 0 _ rfl
      exact ⟨b', o', e, hc 0 _ rfl, hc 1 _ rfl, hc 2 _ rfl, hm⟩
    · obtain ⟨b', o', e, hc⟩ := h3 1 _ rfl
      exact ⟨b', o', e, hc 0 _ rfl, hc 1 _ rfl, hc 2 _ rfl, hm⟩

theorem nx1 (wa pa ma : Addr) (a : Option Addr) (c : Nat) (w : World) (hG : GrAt w (exG wa pa ma)) (hL : PfAt w (pfl a c [(⟨#[113]⟩, 1)])) :
    Calls Try.prog 22 #[.agg #[.slice (some wa) 2 2, .slice (some pa) 1 1], .slice a 1 c] w fun e w' => e = .returned (.tuple #[.int .i64 0, .int .i64 8]) ∧ Below w.heap.size w w' := by
  have h := margin_any (exG wa pa ma) (pfl a c [(⟨#[113]⟩, 1)]) w hG hL
  rw [show margV (exG wa pa ma) (pfl a c [(⟨#[113]⟩, 1)]) = 0 by kernel_rfl, show errV (fit (exG wa pa ma) (pfl a c [(⟨#[113]⟩, 1)])) = 8 by kernel_rfl] at h
  exact h
theorem nx2 (wa pa ma : Addr) (a : Option Addr) (c : Nat) (w : World) (hG : GrAt w (exG wa pa ma)) (hL : PfAt w (pfl a c [(⟨#[112]⟩, 0)])) :
    Calls Try.prog 22 #[.agg #[.slice (some wa) 2 2, .slice (some pa) 1 1], .slice a 1 c] w fun e w' => e = .returned (.tuple #[.int .i64 0, .int .i64 8]) ∧ Below w.heap.size w w' := by
  have h := margin_any (exG wa pa ma) (pfl a c [(⟨#[112]⟩, 0)]) w hG hL
  rw [show margV (exG wa pa ma) (pfl a c [(⟨#[112]⟩, 0)]) = 0 by kernel_rfl, show errV (fit (exG wa pa ma) (pfl a c [(⟨#[112]⟩, 0)])) = 8 by kernel_rfl] at h
  exact h
theorem nx3 (wa pa ma : Addr) (a : Option Addr) (c : Nat) (w : World) (hG : GrAt w (exG wa pa ma)) (hL : PfAt w (pfl a c [(⟨#[112]⟩, 1)])) :
    Calls Try.prog 14 #[.agg #[.slice (some wa) 2 2, .slice (some pa) 1 1], .slice a 1 c, .int .i64 2] w fun e w' => e = .returned (.tuple #[.int .i64 0, .int .i64 2]) ∧ Below w.heap.size w w' := by
  have h := loss_any (exG wa pa ma) (pfl a c [(⟨#[112]⟩, 1)]) 2 w hG hL
  rw [show lossV (exG wa pa ma) (pfl a c [(⟨#[112]⟩, 1)]) 2 = 0 by kernel_rfl, show lossE (exG wa pa ma) (pfl a c [(⟨#[112]⟩, 1)]) 2 = 2 by kernel_rfl] at h
  exact h
theorem nx4 (wa pa ma : Addr) (a : Option Addr) (c : Nat) (w : World) (hG : GrAt w (exG wa pa ma)) (hL : PfAt w (pfl a c [(⟨#[112]⟩, 1)])) :
    Calls Try.prog 14 #[.agg #[.slice (some wa) 2 2, .slice (some pa) 1 1], .slice a 1 c, .int .i64 (-1)] w fun e w' => e = .returned (.tuple #[.int .i64 0, .int .i64 2]) ∧ Below w.heap.size w w' := by
  have h := loss_any (exG wa pa ma) (pfl a c [(⟨#[112]⟩, 1)]) (-1) w hG hL
  rw [show lossV (exG wa pa ma) (pfl a c [(⟨#[112]⟩, 1)]) (-1) = 0 by kernel_rfl, show lossE (exG wa pa ma) (pfl a c [(⟨#[112]⟩, 1)]) (-1) = 2 by kernel_rfl] at h
  exact h
theorem nx5 (wa pa ma : Addr) (w : World) (hG : GrAt w (exG wa pa ma)) (hL : PfAt w (pfl none 0 [])) :
    Calls Try.prog 18 #[.agg #[.slice (some wa) 2 2, .slice (some pa) 1 1], .slice none 0 0] w fun e w' => e = .returned (.tuple #[.int .i64 (-1), .int .i64 0]) ∧ Below w.heap.size w w' := by
  have h := worstAt_any (exG wa pa ma) (pfl none 0 []) w hG hL
  rw [show wAt (exG wa pa ma) (pfl none 0 []) = -1 by kernel_rfl, show errV (fit (exG wa pa ma) (pfl none 0 [])) = 0 by kernel_rfl] at h
  exact h
theorem nj1 : joinE [(⟨#[112]⟩, 1048576)] [(⟨#[112]⟩, 1)] = 52 ∧ joinL [(⟨#[112]⟩, 1048576)] [(⟨#[112]⟩, 1)] = [] := by
  have hm : mg [(⟨#[112]⟩, 1048576)] [(⟨#[112]⟩, 1)] = [(⟨#[112]⟩, 1048577)] := by rw [mg_eq (⟨#[112]⟩, 1048576) (⟨#[112]⟩, 1) [] [] rfl, mg_nil]; rfl
  have he : joinE [(⟨#[112]⟩, 1048576)] [(⟨#[112]⟩, 1)] = 52 := by unfold joinE jn; rw [hm]; kernel_rfl
  refine ⟨he, ?_⟩
  unfold joinL
  rw [he]
  first | rfl | (unfold jn; rw [hm]; rfl)
theorem nj2 : joinE [(⟨#[112]⟩, 1048576)] [(⟨#[112]⟩, -1048576)] = 0 ∧ joinL [(⟨#[112]⟩, 1048576)] [(⟨#[112]⟩, -1048576)] = [] := by
  have hm : mg [(⟨#[112]⟩, 1048576)] [(⟨#[112]⟩, -1048576)] = [(⟨#[112]⟩, 0)] := by rw [mg_eq (⟨#[112]⟩, 1048576) (⟨#[112]⟩, -1048576) [] [] rfl, mg_nil]; rfl
  have he : joinE [(⟨#[112]⟩, 1048576)] [(⟨#[112]⟩, -1048576)] = 0 := by unfold joinE jn; rw [hm]; kernel_rfl
  refine ⟨he, ?_⟩
  unfold joinL
  rw [he]
  first | rfl | (unfold jn; rw [hm]; rfl)
theorem nj3 : joinE [(⟨#[112]⟩, 0)] [] = 8 ∧ joinL [(⟨#[112]⟩, 0)] [] = [] := by
  have hm : mg [(⟨#[112]⟩, 0)] [] = [(⟨#[112]⟩, 0)] := by rw [mg_nil]
  have he : joinE [(⟨#[112]⟩, 0)] [] = 8 := by unfold joinE jn; rw [hm]; kernel_rfl
  refine ⟨he, ?_⟩
  unfold joinL
  rw [he]
  first | rfl | (unfold jn; rw [hm]; rfl)
theorem nj4 : joinE [(⟨#[113]⟩, 2)] [(⟨#[112]⟩, 1)] = 0 ∧ joinL [(⟨#[113]⟩, 2)] [(⟨#[112]⟩, 1)] = [(⟨#[112]⟩, 1), (⟨#[113]⟩, 2)] := by
  have hm : mg [(⟨#[113]⟩, 2)] [(⟨#[112]⟩, 1)] = [(⟨#[112]⟩, 1), (⟨#[113]⟩, 2)] := by rw [mg_gt (⟨#[113]⟩, 2) (⟨#[112]⟩, 1) [] [] (by kernel_rfl), mg_nil]
  have he : joinE [(⟨#[113]⟩, 2)] [(⟨#[112]⟩, 1)] = 0 := by unfold joinE jn; rw [hm]; kernel_rfl
  refine ⟨he, ?_⟩
  unfold joinL
  rw [he]
  first | rfl | (unfold jn; rw [hm]; rfl)
def exK (wa pa ma : Addr) : Gr := ⟨some wa, 1, 1, some pa, 1, 1, fun _ => 1, fun _ => ⟨⟨#[112]⟩, some ma, 1, 1, fun _ => 8388608, 8388608⟩⟩
theorem one_any (s : ByteArray) (q : Int) (w : World) : Calls Try.prog 34 #[.string s, .int .i64 q] w fun e w' => e = .returned (.slice (some ⟨w.heap.size, 0, none⟩) 1 1) ∧ AtL w' 2 pc (some ⟨w.heap.size, 0, none⟩) [(s, q)] ∧ Below w.heap.size w w' := by
  have h1 := at_one (blk_new w (.cells #[.string s, .int .i64 q] 51))
  have HA := Lib.hid h1
  clear h1
  go_enter Try.func34, Try.ntmps34
  go_wp2
  go_ret
  exact ⟨rfl, HA.out, (Below.refl _ _).alloc (Nat.le_refl _) _⟩
theorem nx6 (wa pa ma : Addr) (a : Option Addr) (c : Nat) (w : World) (hG : GrAt w (exK wa pa ma)) (hL : PfAt w (pfl a c [(⟨#[112]⟩, -1048576)])) :
    Calls Try.prog 20 #[.agg #[.slice (some wa) 1 1, .slice (some pa) 1 1], .slice a 1 c] w fun e w' => e = .returned (.tuple #[.int .i64 8796093022208, .int .i64 0]) ∧ Below w.heap.size w w' := by
  have h := addOn_any (exK wa pa ma) (pfl a c [(⟨#[112]⟩, -1048576)]) w hG hL
  rw [show addV (exK wa pa ma) (pfl a c [(⟨#[112]⟩, -1048576)]) = 8796093022208 by kernel_rfl, show errV (fit (exK wa pa ma) (pfl a c [(⟨#[112]⟩, -1048576)])) = 0 by kernel_rfl] at h
  exact h
theorem gr_k {w : World} {A M B : Nat} {T U V : TypeId} (h1 : w.heap[A]? = some (.cells #[.int .i64 1] T (0, 0))) (h2 : w.heap[M]? = some (.cells #[.int .i64 8388608] U (0, 0)))
    (h3 : w.heap[B]? = some (.cells #[.string ⟨#[112]⟩, .slice (some ⟨M, 0, none⟩) 1 1, .int .i64 8388608] V (0, 0))) : GrAt w (exK ⟨A, 0, none⟩ ⟨B, 0, none⟩ ⟨M, 0, none⟩) := by
  refine ⟨by show 1 ≤ maxLen; unfold maxLen; omega, by show 1 ≤ maxLen; unfold maxLen; omega, fun i => ⟨by show 1 ≤ maxLen; unfold maxLen; omega, by show 1 ≤ maxLen; unfold maxLen; omega⟩, fun i hi => ?_, fun i hi => ?_⟩
  · have hi : i < 1 := hi
    obtain rfl : i = 0 := by omega
    exact ⟨_, _, rfl, cell_of h1 0 _ rfl⟩
  · have hi : i < 1 := hi
    obtain rfl : i = 0 := by omega
    refine ⟨_, _, rfl, cell_of h3 0 _ rfl, cell_of h3 1 _ rfl, cell_of h3 2 _ rfl, fun s hs => ?_⟩
    have hs : s < 1 := hs
    obtain rfl : s = 0 := by omega
    exact ⟨_, _, rfl, cell_of h2 0 _ rfl⟩

set_option maxRecDepth 100000 in
set_option maxHeartbeats 8000000 in
theorem names_walk (w : World) : Calls Try.prog 7 #[] w fun e w' => e = .returned (.bool true) ∧ Below w.heap.size w w' := by
  go_enter Try.func7, Try.ntmps7
  go_wp2_with fail
  go_loopw [1, 2] (fun i _ wr => ∃ k : Nat, k ≤ 6 ∧ i = .int .i64 k ∧ Below w.heap.size w wr) (fun i _ _ => 6 - (intOf i).toNat)
  case atStart => exact ⟨0, by omega, rfl, Below.refl _ _⟩
  case round =>
    obtain ⟨k, hk, rfl, hbw⟩ := hrel
    rcases (show k = 0 ∨ k = 1 ∨ k = 2 ∨ k = 3 ∨ k = 4 ∨ k = 5 ∨ k = 6 by omega) with rfl | rfl | rfl | rfl | rfl | rfl | rfl
    · go_wp2_with fail
      refine (grid_is _).mono ?_
      rintro e x ⟨rfl, hx⟩
      have q : x.cell? ⟨wr.heap.size + 1, 1, none⟩ = some (.int .i64 300) := cell_of hx.e1 1 _ rfl
      have f := frozen_of hx.e1 1
      have hlt : wr.heap.size + 1 + 1 + 1 < x.heap.size := blk_lt hx.e3
      have hl1 : wr.heap.size + 1 < x.heap.size := by omega
      have hl2 : wr.heap.size + 1 + 1 < x.heap.size := by omega
      have ne1 : x.heap.size ≠ wr.heap.size + 1 := by omega
      have ne2 : x.heap.size ≠ wr.heap.size + 1 + 1 := by omega
      have ne3 : x.heap.size ≠ wr.heap.size + 1 + 1 + 1 := by omega
      have HXX := Lib.hid hx
      clear hx
      go_wp2_with fail
      generalize hW1 : World.alloc _ _ = W1
      have HB : Hid (W1.heap[wr.heap.size + 1]? = some (.cells #[.int .i64 1000, .int .i64 0] 3 (0, 0)) ∧ W1.heap[wr.heap.size + 1 + 1]? = some (.cells #[.int .i64 (-4), .int .i64 20] 3 (0, 0)) ∧ W1.heap[wr.heap.size + 1 + 1 + 1]? = some (.cells #[.string ⟨#[112]⟩, .slice (some ⟨wr.heap.size + 1 + 1, 0, none⟩) 2 2, .int .i64 1] 54 (0, 0)) ∧ W1.heap[x.heap.size]? = some (.cells #[.slice (some ⟨wr.heap.size + 1, 0, none⟩) 2 2, .slice (some ⟨wr.heap.size + 1 + 1 + 1, 0, none⟩) 1 1] 25 (0, 0)) ∧ Below wr.heap.size wr W1) := by
        rw [← hW1]
        refine ⟨?_, ?_, ?_, ?_, ?_⟩
        · refine blk_past _ _ ?_
          simp [World.setCell, Array.getElem?_modify, HXX.out.e1]
        · exact blk_past _ _ (set_keep HXX.out.e2 (show (wr.heap.size + 1 : Nat) ≠ wr.heap.size + 1 + 1 by omega) _)
        · exact blk_past _ _ (set_keep HXX.out.e3 (show (wr.heap.size + 1 : Nat) ≠ wr.heap.size + 1 + 1 + 1 by omega) _)
        · exact blk_new_set _ _ _ _
        · exact ((HXX.out.hb.setCell (by simp <;> omega) _).alloc (by have := HXX.out.hb.size; simpa using this) _)
      clear hW1 q f
      have HGR := Lib.hid (gr_of HB.out.1 HB.out.2.1 HB.out.2.2.1)
      have c1 := bt hbw HB.out.2.2.2.2 (Nat.le_refl _)
      have hgf : gridB (exH ⟨wr.heap.size + 1, 0, none⟩ ⟨wr.heap.size + 1 + 1 + 1, 0, none⟩ ⟨wr.heap.size + 1 + 1, 0, none⟩ 1000 0 (-4) 20 1 2).W 2 (exH ⟨wr.heap.size + 1, 0, none⟩ ⟨wr.heap.size + 1 + 1 + 1, 0, none⟩ ⟨wr.heap.size + 1 + 1, 0, none⟩ 1000 0 (-4) 20 1 2).P 1 = false := by kernel_rfl
      have HGF := Lib.hid hgf
      clear hgf
      have y0 : W1.cell? ⟨x.heap.size, 0, none⟩ = some (.slice (some ⟨wr.heap.size + 1, 0, none⟩) 2 2) := cell_of HB.out.2.2.2.1 0 _ rfl
      have y1 : W1.cell? ⟨x.heap.size, 1, none⟩ = some (.slice (some ⟨wr.heap.size + 1 + 1 + 1, 0, none⟩) 1 1) := cell_of HB.out.2.2.2.1 1 _ rfl
      go_wp2_with fail
      refine (ck_grid (exH ⟨wr.heap.size + 1, 0, none⟩ ⟨wr.heap.size + 1 + 1 + 1, 0, none⟩ ⟨wr.heap.size + 1 + 1, 0, none⟩ 1000 0 (-4) 20 1 2) _ HGR.out false HGF.out).mono ?_
      rintro e w2 ⟨rfl, hb2⟩
      have hev : errV false = 8 := rfl
      rw [hev]
      have c2 := bt c1 hb2 (Nat.le_refl _)
      have HBX := Lib.hid (blk_keep HB.out.2.2.2.1 hb2)
      have y0 : w2.cell? ⟨x.heap.size, 0, none⟩ = some (.slice (some ⟨wr.heap.size + 1, 0, none⟩) 2 2) := cell_of HBX.out 0 _ rfl
      have y1 : w2.cell? ⟨x.heap.size, 1, none⟩ = some (.slice (some ⟨wr.heap.size + 1 + 1 + 1, 0, none⟩) 1 1) := cell_of HBX.out 1 _ rfl
      go_wp2_with fail
      refine (check_q (exH ⟨wr.heap.size + 1, 0, none⟩ ⟨wr.heap.size + 1 + 1 + 1, 0, none⟩ ⟨wr.heap.size + 1 + 1, 0, none⟩ 1000 0 (-4) 20 1 2) (pfl none 0 []) _ (HGR.out.below hb2) nil_pf false (by unfold fit fitB; rw [show gridB (exH ⟨wr.heap.size + 1, 0, none⟩ ⟨wr.heap.size + 1 + 1 + 1, 0, none⟩ ⟨wr.heap.size + 1 + 1, 0, none⟩ 1000 0 (-4) 20 1 2).W (exH ⟨wr.heap.size + 1, 0, none⟩ ⟨wr.heap.size + 1 + 1 + 1, 0, none⟩ ⟨wr.heap.size + 1 + 1, 0, none⟩ 1000 0 (-4) 20 1 2).nw (exH ⟨wr.heap.size + 1, 0, none⟩ ⟨wr.heap.size + 1 + 1 + 1, 0, none⟩ ⟨wr.heap.size + 1 + 1, 0, none⟩ 1000 0 (-4) 20 1 2).P (exH ⟨wr.heap.size + 1, 0, none⟩ ⟨wr.heap.size + 1 + 1 + 1, 0, none⟩ ⟨wr.heap.size + 1 + 1, 0, none⟩ 1000 0 (-4) 20 1 2).np = false from HGF.out]; rfl)).mono ?_
      rintro e w3 ⟨rfl, hb3⟩
      rw [hev]
      clear hev
      have c3 := bt c2 hb3 (Nat.le_refl _)
      clear y0 y1 ne1 ne2 ne3 hlt hl1 hl2
      go_wp2
      go_roundw
      case rel => exact ⟨1, by omega, rfl, c3⟩
      case measure => simp [intOf]
    · go_wp2_with fail
      refine (grid_is _).mono ?_
      rintro e x ⟨rfl, hx⟩
      have q : x.cell? ⟨wr.heap.size + 1, 1, none⟩ = some (.int .i64 300) := cell_of hx.e1 1 _ rfl
      have f := frozen_of hx.e1 1
      have hlt : wr.heap.size + 1 + 1 + 1 < x.heap.size := blk_lt hx.e3
      have hl1 : wr.heap.size + 1 < x.heap.size := by omega
      have hl2 : wr.heap.size + 1 + 1 < x.heap.size := by omega
      have ne1 : x.heap.size ≠ wr.heap.size + 1 := by omega
      have ne2 : x.heap.size ≠ wr.heap.size + 1 + 1 := by omega
      have ne3 : x.heap.size ≠ wr.heap.size + 1 + 1 + 1 := by omega
      have HXX := Lib.hid hx
      clear hx
      go_wp2_with fail
      generalize hW1 : World.alloc _ _ = W1
      have HB : Hid (W1.heap[wr.heap.size + 1]? = some (.cells #[.int .i64 1000, .int .i64 1001] 3 (0, 0)) ∧ W1.heap[wr.heap.size + 1 + 1]? = some (.cells #[.int .i64 (-4), .int .i64 20] 3 (0, 0)) ∧ W1.heap[wr.heap.size + 1 + 1 + 1]? = some (.cells #[.string ⟨#[112]⟩, .slice (some ⟨wr.heap.size + 1 + 1, 0, none⟩) 2 2, .int .i64 1] 54 (0, 0)) ∧ W1.heap[x.heap.size]? = some (.cells #[.slice (some ⟨wr.heap.size + 1, 0, none⟩) 2 2, .slice (some ⟨wr.heap.size + 1 + 1 + 1, 0, none⟩) 1 1] 25 (0, 0)) ∧ Below wr.heap.size wr W1) := by
        rw [← hW1]
        refine ⟨?_, ?_, ?_, ?_, ?_⟩
        · refine blk_past _ _ ?_
          simp [World.setCell, Array.getElem?_modify, HXX.out.e1]
        · exact blk_past _ _ (set_keep HXX.out.e2 (show (wr.heap.size + 1 : Nat) ≠ wr.heap.size + 1 + 1 by omega) _)
        · exact blk_past _ _ (set_keep HXX.out.e3 (show (wr.heap.size + 1 : Nat) ≠ wr.heap.size + 1 + 1 + 1 by omega) _)
        · exact blk_new_set _ _ _ _
        · exact ((HXX.out.hb.setCell (by simp <;> omega) _).alloc (by have := HXX.out.hb.size; simpa using this) _)
      clear hW1 q f
      have HGR := Lib.hid (gr_of HB.out.1 HB.out.2.1 HB.out.2.2.1)
      have c1 := bt hbw HB.out.2.2.2.2 (Nat.le_refl _)
      have hgf : gridB (exH ⟨wr.heap.size + 1, 0, none⟩ ⟨wr.heap.size + 1 + 1 + 1, 0, none⟩ ⟨wr.heap.size + 1 + 1, 0, none⟩ 1000 1001 (-4) 20 1 2).W 2 (exH ⟨wr.heap.size + 1, 0, none⟩ ⟨wr.heap.size + 1 + 1 + 1, 0, none⟩ ⟨wr.heap.size + 1 + 1, 0, none⟩ 1000 1001 (-4) 20 1 2).P 1 = false := by kernel_rfl
      have HGF := Lib.hid hgf
      clear hgf
      have y0 : W1.cell? ⟨x.heap.size, 0, none⟩ = some (.slice (some ⟨wr.heap.size + 1, 0, none⟩) 2 2) := cell_of HB.out.2.2.2.1 0 _ rfl
      have y1 : W1.cell? ⟨x.heap.size, 1, none⟩ = some (.slice (some ⟨wr.heap.size + 1 + 1 + 1, 0, none⟩) 1 1) := cell_of HB.out.2.2.2.1 1 _ rfl
      go_wp2_with fail
      refine (ck_grid (exH ⟨wr.heap.size + 1, 0, none⟩ ⟨wr.heap.size + 1 + 1 + 1, 0, none⟩ ⟨wr.heap.size + 1 + 1, 0, none⟩ 1000 1001 (-4) 20 1 2) _ HGR.out false HGF.out).mono ?_
      rintro e w2 ⟨rfl, hb2⟩
      have hev : errV false = 8 := rfl
      rw [hev]
      have c2 := bt c1 hb2 (Nat.le_refl _)
      have HBX := Lib.hid (blk_keep HB.out.2.2.2.1 hb2)
      have y0 : w2.cell? ⟨x.heap.size, 0, none⟩ = some (.slice (some ⟨wr.heap.size + 1, 0, none⟩) 2 2) := cell_of HBX.out 0 _ rfl
      have y1 : w2.cell? ⟨x.heap.size, 1, none⟩ = some (.slice (some ⟨wr.heap.size + 1 + 1 + 1, 0, none⟩) 1 1) := cell_of HBX.out 1 _ rfl
      go_wp2_with fail
      refine (check_q (exH ⟨wr.heap.size + 1, 0, none⟩ ⟨wr.heap.size + 1 + 1 + 1, 0, none⟩ ⟨wr.heap.size + 1 + 1, 0, none⟩ 1000 1001 (-4) 20 1 2) (pfl none 0 []) _ (HGR.out.below hb2) nil_pf false (by unfold fit fitB; rw [show gridB (exH ⟨wr.heap.size + 1, 0, none⟩ ⟨wr.heap.size + 1 + 1 + 1, 0, none⟩ ⟨wr.heap.size + 1 + 1, 0, none⟩ 1000 1001 (-4) 20 1 2).W (exH ⟨wr.heap.size + 1, 0, none⟩ ⟨wr.heap.size + 1 + 1 + 1, 0, none⟩ ⟨wr.heap.size + 1 + 1, 0, none⟩ 1000 1001 (-4) 20 1 2).nw (exH ⟨wr.heap.size + 1, 0, none⟩ ⟨wr.heap.size + 1 + 1 + 1, 0, none⟩ ⟨wr.heap.size + 1 + 1, 0, none⟩ 1000 1001 (-4) 20 1 2).P (exH ⟨wr.heap.size + 1, 0, none⟩ ⟨wr.heap.size + 1 + 1 + 1, 0, none⟩ ⟨wr.heap.size + 1 + 1, 0, none⟩ 1000 1001 (-4) 20 1 2).np = false from HGF.out]; rfl)).mono ?_
      rintro e w3 ⟨rfl, hb3⟩
      rw [hev]
      clear hev
      have c3 := bt c2 hb3 (Nat.le_refl _)
      clear y0 y1 ne1 ne2 ne3 hlt hl1 hl2
      go_wp2
      go_roundw
      case rel => exact ⟨2, by omega, rfl, c3⟩
      case measure => simp [intOf]
    · go_wp2_with fail
      refine (grid_is _).mono ?_
      rintro e x ⟨rfl, hx⟩
      have q : x.cell? ⟨wr.heap.size + 1 + 1 + 1, 1, none⟩ = some (.slice (some ⟨wr.heap.size + 1 + 1, 0, none⟩) 2 2) := cell_of hx.e3 1 _ rfl
      have f := frozen_of hx.e3 1
      have hlt : wr.heap.size + 1 + 1 + 1 < x.heap.size := blk_lt hx.e3
      have hl1 : wr.heap.size + 1 < x.heap.size := by omega
      have hl2 : wr.heap.size + 1 + 1 < x.heap.size := by omega
      have ne1 : x.heap.size ≠ wr.heap.size + 1 := by omega
      have ne2 : x.heap.size ≠ wr.heap.size + 1 + 1 := by omega
      have ne3 : x.heap.size ≠ wr.heap.size + 1 + 1 + 1 := by omega
      have HXX := Lib.hid hx
      clear hx
      go_wp2_with fail
      go_region
      go_wp2_with fail
      generalize hW1 : World.drew _ = W1
      have HB : Hid (W1.heap[wr.heap.size + 1]? = some (.cells #[.int .i64 1000, .int .i64 300] 3 (0, 0)) ∧ W1.heap[wr.heap.size + 1 + 1]? = some (.cells #[.int .i64 (-4), .int .i64 20] 3 (0, 0)) ∧ W1.heap[wr.heap.size + 1 + 1 + 1]? = some (.cells #[.string ⟨#[112]⟩, .slice (some ⟨wr.heap.size + 1 + 1, 0, none⟩) 1 2, .int .i64 1] 54 (0, 0)) ∧ W1.heap[x.heap.size]? = some (.cells #[.slice (some ⟨wr.heap.size + 1, 0, none⟩) 2 2, .slice (some ⟨wr.heap.size + 1 + 1 + 1, 0, none⟩) 1 1] 25 (0, 0)) ∧ Below wr.heap.size wr W1) := by
        rw [← hW1]
        refine ⟨?_, ?_, ?_, ?_, ?_⟩
        · exact blk_past _ _ (set_keep HXX.out.e1 (show (wr.heap.size + 1 + 1 + 1 : Nat) ≠ wr.heap.size + 1 by omega) _)
        · exact blk_past _ _ (set_keep HXX.out.e2 (show (wr.heap.size + 1 + 1 + 1 : Nat) ≠ wr.heap.size + 1 + 1 by omega) _)
        · refine blk_past _ _ ?_
          simp [World.setCell, Array.getElem?_modify, HXX.out.e3]
        · exact blk_new_set _ _ _ _
        · exact ((HXX.out.hb.setCell (by simp <;> omega) _).alloc (by have := HXX.out.hb.size; simpa using this) _).drew
      clear hW1 q f
      have HGR := Lib.hid (gr_of HB.out.1 HB.out.2.1 HB.out.2.2.1)
      have c1 := bt hbw HB.out.2.2.2.2 (Nat.le_refl _)
      have hgf : gridB (exH ⟨wr.heap.size + 1, 0, none⟩ ⟨wr.heap.size + 1 + 1 + 1, 0, none⟩ ⟨wr.heap.size + 1 + 1, 0, none⟩ 1000 300 (-4) 20 1 1).W 2 (exH ⟨wr.heap.size + 1, 0, none⟩ ⟨wr.heap.size + 1 + 1 + 1, 0, none⟩ ⟨wr.heap.size + 1 + 1, 0, none⟩ 1000 300 (-4) 20 1 1).P 1 = false := by kernel_rfl
      have HGF := Lib.hid hgf
      clear hgf
      have y0 : W1.cell? ⟨x.heap.size, 0, none⟩ = some (.slice (some ⟨wr.heap.size + 1, 0, none⟩) 2 2) := cell_of HB.out.2.2.2.1 0 _ rfl
      have y1 : W1.cell? ⟨x.heap.size, 1, none⟩ = some (.slice (some ⟨wr.heap.size + 1 + 1 + 1, 0, none⟩) 1 1) := cell_of HB.out.2.2.2.1 1 _ rfl
      go_wp2_with fail
      refine (ck_grid (exH ⟨wr.heap.size + 1, 0, none⟩ ⟨wr.heap.size + 1 + 1 + 1, 0, none⟩ ⟨wr.heap.size + 1 + 1, 0, none⟩ 1000 300 (-4) 20 1 1) _ HGR.out false HGF.out).mono ?_
      rintro e w2 ⟨rfl, hb2⟩
      have hev : errV false = 8 := rfl
      rw [hev]
      have c2 := bt c1 hb2 (Nat.le_refl _)
      have HBX := Lib.hid (blk_keep HB.out.2.2.2.1 hb2)
      have y0 : w2.cell? ⟨x.heap.size, 0, none⟩ = some (.slice (some ⟨wr.heap.size + 1, 0, none⟩) 2 2) := cell_of HBX.out 0 _ rfl
      have y1 : w2.cell? ⟨x.heap.size, 1, none⟩ = some (.slice (some ⟨wr.heap.size + 1 + 1 + 1, 0, none⟩) 1 1) := cell_of HBX.out 1 _ rfl
      go_wp2_with fail
      refine (check_q (exH ⟨wr.heap.size + 1, 0, none⟩ ⟨wr.heap.size + 1 + 1 + 1, 0, none⟩ ⟨wr.heap.size + 1 + 1, 0, none⟩ 1000 300 (-4) 20 1 1) (pfl none 0 []) _ (HGR.out.below hb2) nil_pf false (by unfold fit fitB; rw [show gridB (exH ⟨wr.heap.size + 1, 0, none⟩ ⟨wr.heap.size + 1 + 1 + 1, 0, none⟩ ⟨wr.heap.size + 1 + 1, 0, none⟩ 1000 300 (-4) 20 1 1).W (exH ⟨wr.heap.size + 1, 0, none⟩ ⟨wr.heap.size + 1 + 1 + 1, 0, none⟩ ⟨wr.heap.size + 1 + 1, 0, none⟩ 1000 300 (-4) 20 1 1).nw (exH ⟨wr.heap.size + 1, 0, none⟩ ⟨wr.heap.size + 1 + 1 + 1, 0, none⟩ ⟨wr.heap.size + 1 + 1, 0, none⟩ 1000 300 (-4) 20 1 1).P (exH ⟨wr.heap.size + 1, 0, none⟩ ⟨wr.heap.size + 1 + 1 + 1, 0, none⟩ ⟨wr.heap.size + 1 + 1, 0, none⟩ 1000 300 (-4) 20 1 1).np = false from HGF.out]; rfl)).mono ?_
      rintro e w3 ⟨rfl, hb3⟩
      rw [hev]
      clear hev
      have c3 := bt c2 hb3 (Nat.le_refl _)
      clear y0 y1 ne1 ne2 ne3 hlt hl1 hl2
      go_wp2
      go_roundw
      case rel => exact ⟨3, by omega, rfl, c3⟩
      case measure => simp [intOf]
    · go_wp2_with fail
      refine (grid_is _).mono ?_
      rintro e x ⟨rfl, hx⟩
      have p : x.cell? ⟨wr.heap.size + 1 + 1 + 1, 1, none⟩ = some (.slice (some ⟨wr.heap.size + 1 + 1, 0, none⟩) 2 2) := cell_of hx.e3 1 _ rfl
      have q : x.cell? ⟨wr.heap.size + 1 + 1, 0, none⟩ = some (.int .i64 (-4)) := cell_of hx.e2 0 _ rfl
      have f := frozen_of hx.e2 0
      have hlt : wr.heap.size + 1 + 1 + 1 < x.heap.size := blk_lt hx.e3
      have hl1 : wr.heap.size + 1 < x.heap.size := by omega
      have hl2 : wr.heap.size + 1 + 1 < x.heap.size := by omega
      have ne1 : x.heap.size ≠ wr.heap.size + 1 := by omega
      have ne2 : x.heap.size ≠ wr.heap.size + 1 + 1 := by omega
      have ne3 : x.heap.size ≠ wr.heap.size + 1 + 1 + 1 := by omega
      have HXX := Lib.hid hx
      clear hx
      go_wp2_with fail
      generalize hW1 : World.alloc _ _ = W1
      have HB : Hid (W1.heap[wr.heap.size + 1]? = some (.cells #[.int .i64 1000, .int .i64 300] 3 (0, 0)) ∧ W1.heap[wr.heap.size + 1 + 1]? = some (.cells #[.int .i64 8388609, .int .i64 20] 3 (0, 0)) ∧ W1.heap[wr.heap.size + 1 + 1 + 1]? = some (.cells #[.string ⟨#[112]⟩, .slice (some ⟨wr.heap.size + 1 + 1, 0, none⟩) 2 2, .int .i64 1] 54 (0, 0)) ∧ W1.heap[x.heap.size]? = some (.cells #[.slice (some ⟨wr.heap.size + 1, 0, none⟩) 2 2, .slice (some ⟨wr.heap.size + 1 + 1 + 1, 0, none⟩) 1 1] 25 (0, 0)) ∧ Below wr.heap.size wr W1) := by
        rw [← hW1]
        refine ⟨?_, ?_, ?_, ?_, ?_⟩
        · exact blk_past _ _ (set_keep HXX.out.e1 (show (wr.heap.size + 1 + 1 : Nat) ≠ wr.heap.size + 1 by omega) _)
        · refine blk_past _ _ ?_
          simp [World.setCell, Array.getElem?_modify, HXX.out.e2]
        · exact blk_past _ _ (set_keep HXX.out.e3 (show (wr.heap.size + 1 + 1 : Nat) ≠ wr.heap.size + 1 + 1 + 1 by omega) _)
        · exact blk_new_set _ _ _ _
        · exact ((HXX.out.hb.setCell (by simp <;> omega) _).alloc (by have := HXX.out.hb.size; simpa using this) _)
      clear hW1 q f p
      have HGR := Lib.hid (gr_of HB.out.1 HB.out.2.1 HB.out.2.2.1)
      have c1 := bt hbw HB.out.2.2.2.2 (Nat.le_refl _)
      have hgf : gridB (exH ⟨wr.heap.size + 1, 0, none⟩ ⟨wr.heap.size + 1 + 1 + 1, 0, none⟩ ⟨wr.heap.size + 1 + 1, 0, none⟩ 1000 300 8388609 20 1 2).W 2 (exH ⟨wr.heap.size + 1, 0, none⟩ ⟨wr.heap.size + 1 + 1 + 1, 0, none⟩ ⟨wr.heap.size + 1 + 1, 0, none⟩ 1000 300 8388609 20 1 2).P 1 = false := by kernel_rfl
      have HGF := Lib.hid hgf
      clear hgf
      have y0 : W1.cell? ⟨x.heap.size, 0, none⟩ = some (.slice (some ⟨wr.heap.size + 1, 0, none⟩) 2 2) := cell_of HB.out.2.2.2.1 0 _ rfl
      have y1 : W1.cell? ⟨x.heap.size, 1, none⟩ = some (.slice (some ⟨wr.heap.size + 1 + 1 + 1, 0, none⟩) 1 1) := cell_of HB.out.2.2.2.1 1 _ rfl
      go_wp2_with fail
      refine (ck_grid (exH ⟨wr.heap.size + 1, 0, none⟩ ⟨wr.heap.size + 1 + 1 + 1, 0, none⟩ ⟨wr.heap.size + 1 + 1, 0, none⟩ 1000 300 8388609 20 1 2) _ HGR.out false HGF.out).mono ?_
      rintro e w2 ⟨rfl, hb2⟩
      have hev : errV false = 8 := rfl
      rw [hev]
      have c2 := bt c1 hb2 (Nat.le_refl _)
      have HBX := Lib.hid (blk_keep HB.out.2.2.2.1 hb2)
      have y0 : w2.cell? ⟨x.heap.size, 0, none⟩ = some (.slice (some ⟨wr.heap.size + 1, 0, none⟩) 2 2) := cell_of HBX.out 0 _ rfl
      have y1 : w2.cell? ⟨x.heap.size, 1, none⟩ = some (.slice (some ⟨wr.heap.size + 1 + 1 + 1, 0, none⟩) 1 1) := cell_of HBX.out 1 _ rfl
      go_wp2_with fail
      refine (check_q (exH ⟨wr.heap.size + 1, 0, none⟩ ⟨wr.heap.size + 1 + 1 + 1, 0, none⟩ ⟨wr.heap.size + 1 + 1, 0, none⟩ 1000 300 8388609 20 1 2) (pfl none 0 []) _ (HGR.out.below hb2) nil_pf false (by unfold fit fitB; rw [show gridB (exH ⟨wr.heap.size + 1, 0, none⟩ ⟨wr.heap.size + 1 + 1 + 1, 0, none⟩ ⟨wr.heap.size + 1 + 1, 0, none⟩ 1000 300 8388609 20 1 2).W (exH ⟨wr.heap.size + 1, 0, none⟩ ⟨wr.heap.size + 1 + 1 + 1, 0, none⟩ ⟨wr.heap.size + 1 + 1, 0, none⟩ 1000 300 8388609 20 1 2).nw (exH ⟨wr.heap.size + 1, 0, none⟩ ⟨wr.heap.size + 1 + 1 + 1, 0, none⟩ ⟨wr.heap.size + 1 + 1, 0, none⟩ 1000 300 8388609 20 1 2).P (exH ⟨wr.heap.size + 1, 0, none⟩ ⟨wr.heap.size + 1 + 1 + 1, 0, none⟩ ⟨wr.heap.size + 1 + 1, 0, none⟩ 1000 300 8388609 20 1 2).np = false from HGF.out]; rfl)).mono ?_
      rintro e w3 ⟨rfl, hb3⟩
      rw [hev]
      clear hev
      have c3 := bt c2 hb3 (Nat.le_refl _)
      clear y0 y1 ne1 ne2 ne3 hlt hl1 hl2
      go_wp2
      go_roundw
      case rel => exact ⟨4, by omega, rfl, c3⟩
      case measure => simp [intOf]
    · go_wp2_with fail
      refine (grid_is _).mono ?_
      rintro e x ⟨rfl, hx⟩
      have q : x.cell? ⟨wr.heap.size + 1 + 1 + 1, 2, none⟩ = some (.int .i64 1) := cell_of hx.e3 2 _ rfl
      have f := frozen_of hx.e3 2
      have hlt : wr.heap.size + 1 + 1 + 1 < x.heap.size := blk_lt hx.e3
      have hl1 : wr.heap.size + 1 < x.heap.size := by omega
      have hl2 : wr.heap.size + 1 + 1 < x.heap.size := by omega
      have ne1 : x.heap.size ≠ wr.heap.size + 1 := by omega
      have ne2 : x.heap.size ≠ wr.heap.size + 1 + 1 := by omega
      have ne3 : x.heap.size ≠ wr.heap.size + 1 + 1 + 1 := by omega
      have HXX := Lib.hid hx
      clear hx
      go_wp2_with fail
      generalize hW1 : World.alloc _ _ = W1
      have HB : Hid (W1.heap[wr.heap.size + 1]? = some (.cells #[.int .i64 1000, .int .i64 300] 3 (0, 0)) ∧ W1.heap[wr.heap.size + 1 + 1]? = some (.cells #[.int .i64 (-4), .int .i64 20] 3 (0, 0)) ∧ W1.heap[wr.heap.size + 1 + 1 + 1]? = some (.cells #[.string ⟨#[112]⟩, .slice (some ⟨wr.heap.size + 1 + 1, 0, none⟩) 2 2, .int .i64 (-1)] 54 (0, 0)) ∧ W1.heap[x.heap.size]? = some (.cells #[.slice (some ⟨wr.heap.size + 1, 0, none⟩) 2 2, .slice (some ⟨wr.heap.size + 1 + 1 + 1, 0, none⟩) 1 1] 25 (0, 0)) ∧ Below wr.heap.size wr W1) := by
        rw [← hW1]
        refine ⟨?_, ?_, ?_, ?_, ?_⟩
        · exact blk_past _ _ (set_keep HXX.out.e1 (show (wr.heap.size + 1 + 1 + 1 : Nat) ≠ wr.heap.size + 1 by omega) _)
        · exact blk_past _ _ (set_keep HXX.out.e2 (show (wr.heap.size + 1 + 1 + 1 : Nat) ≠ wr.heap.size + 1 + 1 by omega) _)
        · refine blk_past _ _ ?_
          simp [World.setCell, Array.getElem?_modify, HXX.out.e3]
        · exact blk_new_set _ _ _ _
        · exact ((HXX.out.hb.setCell (by simp <;> omega) _).alloc (by have := HXX.out.hb.size; simpa using this) _)
      clear hW1 q f
      have HGR := Lib.hid (gr_of HB.out.1 HB.out.2.1 HB.out.2.2.1)
      have c1 := bt hbw HB.out.2.2.2.2 (Nat.le_refl _)
      have hgf : gridB (exH ⟨wr.heap.size + 1, 0, none⟩ ⟨wr.heap.size + 1 + 1 + 1, 0, none⟩ ⟨wr.heap.size + 1 + 1, 0, none⟩ 1000 300 (-4) 20 (-1) 2).W 2 (exH ⟨wr.heap.size + 1, 0, none⟩ ⟨wr.heap.size + 1 + 1 + 1, 0, none⟩ ⟨wr.heap.size + 1 + 1, 0, none⟩ 1000 300 (-4) 20 (-1) 2).P 1 = false := by kernel_rfl
      have HGF := Lib.hid hgf
      clear hgf
      have y0 : W1.cell? ⟨x.heap.size, 0, none⟩ = some (.slice (some ⟨wr.heap.size + 1, 0, none⟩) 2 2) := cell_of HB.out.2.2.2.1 0 _ rfl
      have y1 : W1.cell? ⟨x.heap.size, 1, none⟩ = some (.slice (some ⟨wr.heap.size + 1 + 1 + 1, 0, none⟩) 1 1) := cell_of HB.out.2.2.2.1 1 _ rfl
      go_wp2_with fail
      refine (ck_grid (exH ⟨wr.heap.size + 1, 0, none⟩ ⟨wr.heap.size + 1 + 1 + 1, 0, none⟩ ⟨wr.heap.size + 1 + 1, 0, none⟩ 1000 300 (-4) 20 (-1) 2) _ HGR.out false HGF.out).mono ?_
      rintro e w2 ⟨rfl, hb2⟩
      have hev : errV false = 8 := rfl
      rw [hev]
      have c2 := bt c1 hb2 (Nat.le_refl _)
      have HBX := Lib.hid (blk_keep HB.out.2.2.2.1 hb2)
      have y0 : w2.cell? ⟨x.heap.size, 0, none⟩ = some (.slice (some ⟨wr.heap.size + 1, 0, none⟩) 2 2) := cell_of HBX.out 0 _ rfl
      have y1 : w2.cell? ⟨x.heap.size, 1, none⟩ = some (.slice (some ⟨wr.heap.size + 1 + 1 + 1, 0, none⟩) 1 1) := cell_of HBX.out 1 _ rfl
      go_wp2_with fail
      refine (check_q (exH ⟨wr.heap.size + 1, 0, none⟩ ⟨wr.heap.size + 1 + 1 + 1, 0, none⟩ ⟨wr.heap.size + 1 + 1, 0, none⟩ 1000 300 (-4) 20 (-1) 2) (pfl none 0 []) _ (HGR.out.below hb2) nil_pf false (by unfold fit fitB; rw [show gridB (exH ⟨wr.heap.size + 1, 0, none⟩ ⟨wr.heap.size + 1 + 1 + 1, 0, none⟩ ⟨wr.heap.size + 1 + 1, 0, none⟩ 1000 300 (-4) 20 (-1) 2).W (exH ⟨wr.heap.size + 1, 0, none⟩ ⟨wr.heap.size + 1 + 1 + 1, 0, none⟩ ⟨wr.heap.size + 1 + 1, 0, none⟩ 1000 300 (-4) 20 (-1) 2).nw (exH ⟨wr.heap.size + 1, 0, none⟩ ⟨wr.heap.size + 1 + 1 + 1, 0, none⟩ ⟨wr.heap.size + 1 + 1, 0, none⟩ 1000 300 (-4) 20 (-1) 2).P (exH ⟨wr.heap.size + 1, 0, none⟩ ⟨wr.heap.size + 1 + 1 + 1, 0, none⟩ ⟨wr.heap.size + 1 + 1, 0, none⟩ 1000 300 (-4) 20 (-1) 2).np = false from HGF.out]; rfl)).mono ?_
      rintro e w3 ⟨rfl, hb3⟩
      rw [hev]
      clear hev
      have c3 := bt c2 hb3 (Nat.le_refl _)
      clear y0 y1 ne1 ne2 ne3 hlt hl1 hl2
      go_wp2
      go_roundw
      case rel => exact ⟨5, by omega, rfl, c3⟩
      case measure => simp [intOf]
    · go_wp2_with fail
      refine (grid_is _).mono ?_
      rintro e x ⟨rfl, hx⟩
      have p0 : x.cell? ⟨wr.heap.size + 1 + 1 + 1, 0, none⟩ = some (.string ⟨#[112]⟩) := cell_of hx.e3 0 _ rfl
      have p1 : x.cell? ⟨wr.heap.size + 1 + 1 + 1, 1, none⟩ = some (.slice (some ⟨wr.heap.size + 1 + 1, 0, none⟩) 2 2) := cell_of hx.e3 1 _ rfl
      have p2 : x.cell? ⟨wr.heap.size + 1 + 1 + 1, 2, none⟩ = some (.int .i64 1) := cell_of hx.e3 2 _ rfl
      have hlt : wr.heap.size + 1 + 1 + 1 < x.heap.size := blk_lt hx.e3
      have ne3 : x.heap.size ≠ wr.heap.size + 1 + 1 + 1 := by omega
      have HXX := Lib.hid hx
      clear hx
      have HOW := Lib.hid (show OwnL x (wr.heap.size + 1 + 1 + 1) 54 3 pdc (.slice (some ⟨wr.heap.size + 1 + 1 + 1, 0, none⟩) 1 1) [⟨⟨#[112]⟩, some ⟨wr.heap.size + 1 + 1, 0, none⟩, 2, 2, fun s => if s = 0 then -4 else 20, 1⟩] from ⟨rfl, .inr ⟨_, 1, _, rfl, Nat.le_refl _, HXX.out.e3, Nat.le_refl _, by unfold maxLen; omega, rfl, rfl⟩⟩)
      have hl1 : wr.heap.size + 1 < x.heap.size := by omega
      have hl2 : wr.heap.size + 1 + 1 < x.heap.size := by omega
      go_wp2_with fail
      go_region_law ((refine step_append_L (P := Try.prog) (α := PD) rfl _ _ _ rfl 54 (.agg #[.string ⟨#[]⟩, .slice none 0 0, .int .i64 0]) 3 48 Try.underlying23 (by kernel_rfl) rfl (by decide) (wr.heap.size + 1 + 1 + 1) pdc (.slice (some ⟨wr.heap.size + 1 + 1 + 1, 0, none⟩) 1 1) [⟨⟨#[112]⟩, some ⟨wr.heap.size + 1 + 1, 0, none⟩, 2, 2, fun s => if s = 0 then -4 else 20, 1⟩] ⟨⟨#[112]⟩, some ⟨wr.heap.size + 1 + 1, 0, none⟩, 2, 2, fun s => if s = 0 then -4 else 20, 1⟩ (x.heap.size + 1) #[.string ⟨#[112]⟩, .slice (some ⟨wr.heap.size + 1 + 1, 0, none⟩) 2 2, .int .i64 1] (by rfl) (by rfl) (HOW.out.below (by first | exact ((Below.refl _ _).alloc (Nat.le_refl _) _).drew.alloc (by simp) _ | exact (((Below.refl _ _).alloc (Nat.le_refl _) _).alloc (by simp) _).drew)) (by have := blk_two x (.cells #[.slice (some ⟨wr.heap.size + 1, 0, none⟩) 2 2, .slice (some ⟨wr.heap.size + 1 + 1 + 1, 0, none⟩) 1 1] 25 (0, 0)) (.cells #[.string ⟨#[112]⟩, .slice (some ⟨wr.heap.size + 1 + 1, 0, none⟩) 2 2, .int .i64 1] 54); first | exact this.2 | (simpa using this.2)) rfl rfl (by simp [pdc, Value.oneCell']) (by unfold maxLen; simp) (by simp) (by simp; omega) ?_; intro g1 cap w9 hown9 hgr hat9; have y1 : w9.cell? ⟨x.heap.size, 1, none⟩ = some (.slice (some ⟨wr.heap.size + 1 + 1 + 1, 0, none⟩) 1 1) := (hgr.cell_far _ (by simp <;> omega) (by simp [Value.ownBlock] <;> omega)).trans (by first | exact cell_of (blk_two x (.cells #[.slice (some ⟨wr.heap.size + 1, 0, none⟩) 2 2, .slice (some ⟨wr.heap.size + 1 + 1 + 1, 0, none⟩) 1 1] 25 (0, 0)) (.cells #[.string ⟨#[112]⟩, .slice (some ⟨wr.heap.size + 1 + 1, 0, none⟩) 2 2, .int .i64 1] 54)).1 1 _ rfl); have fy : w9.frozen? ⟨x.heap.size, 1, none⟩ = false := (hgr.frozen_far _ (by simp <;> omega) (by simp [Value.ownBlock] <;> omega)).trans (by first | exact frozen_of (blk_two x (.cells #[.slice (some ⟨wr.heap.size + 1, 0, none⟩) 2 2, .slice (some ⟨wr.heap.size + 1 + 1 + 1, 0, none⟩) 1 1] 25 (0, 0)) (.cells #[.string ⟨#[112]⟩, .slice (some ⟨wr.heap.size + 1 + 1, 0, none⟩) 2 2, .int .i64 1] 54)).1 1)))
      all_goals
        clear y1 fy p0 p1 p2
        have HP2 := Lib.hid (hown9.sl pdc_len).1
        have hne1 : (Value.slice (some ⟨wr.heap.size + 1 + 1 + 1, 0, none⟩) 1 1).ownBlock ≠ some (wr.heap.size + 1) := by simp [Value.ownBlock] <;> omega
        have hne2 : (Value.slice (some ⟨wr.heap.size + 1 + 1 + 1, 0, none⟩) 1 1).ownBlock ≠ some (wr.heap.size + 1 + 1) := by simp [Value.ownBlock] <;> omega
        have hne0 : (Value.slice (some ⟨wr.heap.size + 1 + 1 + 1, 0, none⟩) 1 1).ownBlock ≠ some x.heap.size := by simp [Value.ownBlock] <;> omega
        have E1 := Lib.hid (far_blk hgr (blk_past _ _ (blk_past _ _ HXX.out.e1)) hne1)
        have E2 := Lib.hid (far_blk hgr (blk_past _ _ (blk_past _ _ HXX.out.e2)) hne2)
        have E0 : Hid (w9.heap[x.heap.size]? = some (.cells #[.slice (some ⟨wr.heap.size + 1, 0, none⟩) 2 2, .slice (some ⟨wr.heap.size + 1 + 1 + 1, 0, none⟩) 1 1] 25 (0, 0))) := by
          first
            | exact far_blk hgr (blk_past _ _ (blk_new x _)) hne0
            | exact far_blk hgr (blk_past _ _ (blk_new x.drew _)) hne0
        have HC9 : Hid (Below wr.heap.size wr w9) := by
          have h0 := HXX.out.hb
          have h1 := (h0.alloc h0.size (.cells #[.slice (some ⟨wr.heap.size + 1, 0, none⟩) 2 2, .slice (some ⟨wr.heap.size + 1 + 1 + 1, 0, none⟩) 1 1] 25 (0, 0)))
          first
            | exact (h1.alloc h1.size _).grown hgr (by have := h0.size; simp; omega) (fun k hk => by simp [Value.ownBlock] at hk; omega)
            | exact (h1.drew.alloc h1.size _).grown hgr (by have := h0.size; simp; omega) (fun k hk => by simp [Value.ownBlock] at hk; omega)
            | exact (h1.alloc h1.size _).drew.grown hgr (by have := h0.size; simp; omega) (fun k hk => by simp [Value.ownBlock] at hk; omega)
        have hgx : g1 ≠ x.heap.size := by
          rcases hat9 with h | h
          · simp [Value.ownBlock] at h; omega
          · rw [h]; simp <;> omega
        have HGS := Lib.hid hgx
        clear hown9 hgr hat9 hne0 hne1 hne2 hgx
        generalize hW1 : World.setCell _ _ _ = W1
        have HB : Hid (W1.heap[wr.heap.size + 1]? = some (.cells #[.int .i64 1000, .int .i64 300] 3 (0, 0)) ∧ W1.heap[wr.heap.size + 1 + 1]? = some (.cells #[.int .i64 (-4), .int .i64 20] 3 (0, 0)) ∧ AtL W1 3 pdc (some ⟨g1, 0, none⟩) [⟨⟨#[112]⟩, some ⟨wr.heap.size + 1 + 1, 0, none⟩, 2, 2, fun s => if s = 0 then -4 else 20, 1⟩, ⟨⟨#[112]⟩, some ⟨wr.heap.size + 1 + 1, 0, none⟩, 2, 2, fun s => if s = 0 then -4 else 20, 1⟩] ∧ W1.heap[x.heap.size]? = some (.cells #[.slice (some ⟨wr.heap.size + 1, 0, none⟩) 2 2, .slice (some ⟨g1, 0, none⟩) 2 cap] 25 (0, 0)) ∧ Below wr.heap.size wr W1) := by
          rw [← hW1]
          refine ⟨set_keep E1.out (show (x.heap.size : Nat) ≠ wr.heap.size + 1 by omega) _, set_keep E2.out (show (x.heap.size : Nat) ≠ wr.heap.size + 1 + 1 by omega) _, ?_, ?_, HC9.out.setCell (p := ⟨x.heap.size, 1, none⟩) (by show wr.heap.size ≤ x.heap.size; omega) _⟩
          · intro i z hz
            obtain ⟨b', o', hbo, hc⟩ := HP2.out i z hz
            cases hbo
            refine ⟨g1, 0, rfl, fun j u hu => ?_⟩
            have h3 := hc j u hu
            have h4 : (w9.setCell ⟨x.heap.size, 1, none⟩ (.slice (some ⟨g1, 0, none⟩) 2 cap)).cell? ⟨g1, 0 + i * 3 + j, none⟩ = w9.cell? ⟨g1, 0 + i * 3 + j, none⟩ := World.cell?_setCell_other _ _ _ _ (fun e => HGS.out (by have h := congrArg Addr.block e; first | exact h | exact h.symm))
            exact h4.trans h3
          · have h5 := E0.out
            show (w9.setCell _ _).heap[x.heap.size]? = _
            simp [World.setCell, Array.getElem?_modify, h5]
        clear hW1 HP2 E1 E2 E0 HC9 HGS
        have HGR := Lib.hid (gr_two (cap := cap) HB.out.1 HB.out.2.1 HB.out.2.2.1)
        have c1 := bt hbw HB.out.2.2.2.2 (Nat.le_refl _)
        have HGF := Lib.hid (show gridB (exJ ⟨wr.heap.size + 1, 0, none⟩ ⟨g1, 0, none⟩ ⟨wr.heap.size + 1 + 1, 0, none⟩ cap).W 2 (exJ ⟨wr.heap.size + 1, 0, none⟩ ⟨g1, 0, none⟩ ⟨wr.heap.size + 1 + 1, 0, none⟩ cap).P 2 = false by kernel_rfl)
        have y0 : W1.cell? ⟨x.heap.size, 0, none⟩ = some (.slice (some ⟨wr.heap.size + 1, 0, none⟩) 2 2) := cell_of HB.out.2.2.2.1 0 _ rfl
        have y1 : W1.cell? ⟨x.heap.size, 1, none⟩ = some (.slice (some ⟨g1, 0, none⟩) 2 cap) := cell_of HB.out.2.2.2.1 1 _ rfl
        go_wp2_with fail
        refine (ck_grid (exJ ⟨wr.heap.size + 1, 0, none⟩ ⟨g1, 0, none⟩ ⟨wr.heap.size + 1 + 1, 0, none⟩ cap) _ HGR.out false HGF.out).mono ?_
        rintro e w2 ⟨rfl, hb2⟩
        have hev : errV false = 8 := rfl
        rw [hev]
        have c2 := bt c1 hb2 (Nat.le_refl _)
        have HBX := Lib.hid (blk_keep HB.out.2.2.2.1 hb2)
        have y0 : w2.cell? ⟨x.heap.size, 0, none⟩ = some (.slice (some ⟨wr.heap.size + 1, 0, none⟩) 2 2) := cell_of HBX.out 0 _ rfl
        have y1 : w2.cell? ⟨x.heap.size, 1, none⟩ = some (.slice (some ⟨g1, 0, none⟩) 2 cap) := cell_of HBX.out 1 _ rfl
        go_wp2_with fail
        refine (check_q (exJ ⟨wr.heap.size + 1, 0, none⟩ ⟨g1, 0, none⟩ ⟨wr.heap.size + 1 + 1, 0, none⟩ cap) (pfl none 0 []) _ (HGR.out.below hb2) nil_pf false (by unfold fit fitB; rw [show gridB (exJ ⟨wr.heap.size + 1, 0, none⟩ ⟨g1, 0, none⟩ ⟨wr.heap.size + 1 + 1, 0, none⟩ cap).W (exJ ⟨wr.heap.size + 1, 0, none⟩ ⟨g1, 0, none⟩ ⟨wr.heap.size + 1 + 1, 0, none⟩ cap).nw (exJ ⟨wr.heap.size + 1, 0, none⟩ ⟨g1, 0, none⟩ ⟨wr.heap.size + 1 + 1, 0, none⟩ cap).P (exJ ⟨wr.heap.size + 1, 0, none⟩ ⟨g1, 0, none⟩ ⟨wr.heap.size + 1 + 1, 0, none⟩ cap).np = false from HGF.out]; rfl)).mono ?_
        rintro e w3 ⟨rfl, hb3⟩
        rw [hev]
        clear hev
        have c3 := bt c2 hb3 (Nat.le_refl _)
        clear y0 y1 ne3 hlt hl1 hl2
        go_wp2
        go_roundw
        case rel => exact ⟨6, by omega, rfl, c3⟩
        case measure => simp [intOf]
    ·
      obtain ⟨x0, rfl⟩ : ∃ x0 : World, x0 = wr := ⟨_, rfl⟩
      go_wp2_with fail
      refine (grid_any _).mono ?_
      rintro e x1 ⟨wa1, pa1, ma1, rfl, hG1, hb1⟩
      have d1 := bt hbw hb1 (Nat.le_refl _)
      have HG1 := Lib.hid hG1
      clear hG1
      go_wp2_with fail
      refine (one_any ⟨#[113]⟩ 1 _).mono ?_
      rintro e x2 ⟨rfl, hA2, hb2⟩
      have d2 := bt d1 hb2 (Nat.le_refl _)
      have HA2 := Lib.hid hA2
      clear hA2
      have HG1' := Lib.hid (HG1.out.below hb2)
      clear HG1
      have HG1 := HG1'
      clear HG1'
      go_wp2_with fail
      refine (nx1 wa1 pa1 ma1 (some ⟨x1.heap.size, 0, none⟩) 1 _ HG1.out (pfl_at (ok_two ⟨#[113]⟩ 1 (by decide) (by decide)) HA2.out)).mono ?_
      rintro e x3 ⟨rfl, hb3⟩
      have d3 := bt d2 hb3 (Nat.le_refl _)
      clear HG1 HA2
      go_wp2_with fail
      refine (grid_any _).mono ?_
      rintro e x4 ⟨wa2, pa2, ma2, rfl, hG2, hb4⟩
      have d4 := bt d3 hb4 (Nat.le_refl _)
      have HG2 := Lib.hid hG2
      clear hG2
      go_wp2_with fail
      refine (one_any ⟨#[112]⟩ 0 _).mono ?_
      rintro e x5 ⟨rfl, hA5, hb5⟩
      have d5 := bt d4 hb5 (Nat.le_refl _)
      have HA5 := Lib.hid hA5
      clear hA5
      have HG2' := Lib.hid (HG2.out.below hb5)
      clear HG2
      have HG2 := HG2'
      clear HG2'
      go_wp2_with fail
      refine (nx2 wa2 pa2 ma2 (some ⟨x4.heap.size, 0, none⟩) 1 _ HG2.out (pfl_at (ok_two ⟨#[112]⟩ 0 (by decide) (by decide)) HA5.out)).mono ?_
      rintro e x6 ⟨rfl, hb6⟩
      have d6 := bt d5 hb6 (Nat.le_refl _)
      clear HG2 HA5
      go_wp2_with fail
      refine (grid_any _).mono ?_
      rintro e x7 ⟨wa3, pa3, ma3, rfl, hG3, hb7⟩
      have d7 := bt d6 hb7 (Nat.le_refl _)
      have HG3 := Lib.hid hG3
      clear hG3
      go_wp2_with fail
      refine (one_any ⟨#[112]⟩ 1 _).mono ?_
      rintro e x8 ⟨rfl, hA8, hb8⟩
      have d8 := bt d7 hb8 (Nat.le_refl _)
      have HA8 := Lib.hid hA8
      clear hA8
      have HG3' := Lib.hid (HG3.out.below hb8)
      clear HG3
      have HG3 := HG3'
      clear HG3'
      go_wp2_with fail
      refine (nx3 wa3 pa3 ma3 (some ⟨x7.heap.size, 0, none⟩) 1 _ HG3.out (pfl_at (ok_two ⟨#[112]⟩ 1 (by decide) (by decide)) HA8.out)).mono ?_
      rintro e x9 ⟨rfl, hb9⟩
      have d9 := bt d8 hb9 (Nat.le_refl _)
      clear HG3 HA8
      go_wp2_with fail
      refine (grid_any _).mono ?_
      rintro e x10 ⟨wa4, pa4, ma4, rfl, hG4, hb10⟩
      have d10 := bt d9 hb10 (Nat.le_refl _)
      have HG4 := Lib.hid hG4
      clear hG4
      go_wp2_with fail
      refine (one_any ⟨#[112]⟩ 1 _).mono ?_
      rintro e x11 ⟨rfl, hA11, hb11⟩
      have d11 := bt d10 hb11 (Nat.le_refl _)
      have HA11 := Lib.hid hA11
      clear hA11
      have HG4' := Lib.hid (HG4.out.below hb11)
      clear HG4
      have HG4 := HG4'
      clear HG4'
      go_wp2_with fail
      refine (nx4 wa4 pa4 ma4 (some ⟨x10.heap.size, 0, none⟩) 1 _ HG4.out (pfl_at (ok_two ⟨#[112]⟩ 1 (by decide) (by decide)) HA11.out)).mono ?_
      rintro e x12 ⟨rfl, hb12⟩
      have d12 := bt d11 hb12 (Nat.le_refl _)
      clear HG4 HA11
      go_wp2_with fail
      refine (grid_any _).mono ?_
      rintro e x13 ⟨wa5, pa5, ma5, rfl, hG5, hb13⟩
      have d13 := bt d12 hb13 (Nat.le_refl _)
      have HG5 := Lib.hid hG5
      clear hG5
      go_wp2_with fail
      refine (nx5 wa5 pa5 ma5 _ HG5.out nil_pf).mono ?_
      rintro e x14 ⟨rfl, hb14⟩
      have d14 := bt d13 hb14 (Nat.le_refl _)
      clear HG5
      go_wp2_with fail
      refine (one_any ⟨#[112]⟩ 1048576 _).mono ?_
      rintro e x15 ⟨rfl, hA15, hb15⟩
      have d15 := bt d14 hb15 (Nat.le_refl _)
      have HA15 := Lib.hid hA15
      clear hA15
      go_wp2_with fail
      refine (one_any ⟨#[112]⟩ 1 _).mono ?_
      rintro e x16 ⟨rfl, hA16, hb16⟩
      have d16 := bt d15 hb16 (Nat.le_refl _)
      have HA16 := Lib.hid hA16
      clear hA16
      have HA15' := Lib.hid (HA15.out.below hb16)
      clear HA15
      have HA15 := HA15'
      clear HA15'
      go_wp2_with fail
      refine (join_any (some ⟨x14.heap.size, 0, none⟩) (some ⟨x15.heap.size, 0, none⟩) 1 1 [(⟨#[112]⟩, 1048576)] [(⟨#[112]⟩, 1)] _ (Nat.le_refl _) (Nat.le_refl _) (ok_two ⟨#[112]⟩ 1048576 (by decide) (by decide)) (ok_two ⟨#[112]⟩ 1 (by decide) (by decide)) HA15.out HA16.out).mono ?_
      intro e x17 hj17
      obtain ⟨aj17, cj17, rfl, _, hr17, hb17⟩ := hj17.use
      rw [nj1.1, nj1.2] at *
      have d17 := bt d16 hb17 (Nat.le_refl _)
      clear hj17 hr17 HA15 HA16
      go_wp2_with fail
      refine (one_any ⟨#[112]⟩ 1048576 _).mono ?_
      rintro e x18 ⟨rfl, hA18, hb18⟩
      have d18 := bt d17 hb18 (Nat.le_refl _)
      have HA18 := Lib.hid hA18
      clear hA18
      go_wp2_with fail
      refine (one_any ⟨#[112]⟩ (-1048576) _).mono ?_
      rintro e x19 ⟨rfl, hA19, hb19⟩
      have d19 := bt d18 hb19 (Nat.le_refl _)
      have HA19 := Lib.hid hA19
      clear hA19
      have HA18' := Lib.hid (HA18.out.below hb19)
      clear HA18
      have HA18 := HA18'
      clear HA18'
      go_wp2_with fail
      refine (join_any (some ⟨x17.heap.size, 0, none⟩) (some ⟨x18.heap.size, 0, none⟩) 1 1 [(⟨#[112]⟩, 1048576)] [(⟨#[112]⟩, (-1048576))] _ (Nat.le_refl _) (Nat.le_refl _) (ok_two ⟨#[112]⟩ 1048576 (by decide) (by decide)) (ok_two ⟨#[112]⟩ (-1048576) (by decide) (by decide)) HA18.out HA19.out).mono ?_
      intro e x20 hj20
      obtain ⟨aj20, cj20, rfl, _, hr20, hb20⟩ := hj20.use
      rw [nj2.1, nj2.2] at *
      have d20 := bt d19 hb20 (Nat.le_refl _)
      clear hj20 hr20 HA18 HA19
      go_wp2_with fail
      refine (one_any ⟨#[112]⟩ 0 _).mono ?_
      rintro e x21 ⟨rfl, hA21, hb21⟩
      have d21 := bt d20 hb21 (Nat.le_refl _)
      have HA21 := Lib.hid hA21
      clear hA21
      go_wp2_with fail
      refine (join_any (some ⟨x20.heap.size, 0, none⟩) none 1 0 [(⟨#[112]⟩, 0)] [] _ (Nat.le_refl _) (Nat.le_refl _) (ok_two ⟨#[112]⟩ 0 (by decide) (by decide)) ⟨Nat.zero_le _, fun z hz => (by cases hz), fun z hz => (by cases hz)⟩ HA21.out (AtL.nil _ _ _ _)).mono ?_
      intro e x22 hj22
      obtain ⟨aj22, cj22, rfl, _, hr22, hb22⟩ := hj22.use
      rw [nj3.1, nj3.2] at *
      have d22 := bt d21 hb22 (Nat.le_refl _)
      clear hj22 hr22 HA21
      go_wp2_with fail
      refine (one_any ⟨#[113]⟩ 2 _).mono ?_
      rintro e x23 ⟨rfl, hA23, hb23⟩
      have d23 := bt d22 hb23 (Nat.le_refl _)
      have HA23 := Lib.hid hA23
      clear hA23
      go_wp2_with fail
      refine (one_any ⟨#[112]⟩ 1 _).mono ?_
      rintro e x24 ⟨rfl, hA24, hb24⟩
      have d24 := bt d23 hb24 (Nat.le_refl _)
      have HA24 := Lib.hid hA24
      clear hA24
      have HA23' := Lib.hid (HA23.out.below hb24)
      clear HA23
      have HA23 := HA23'
      clear HA23'
      go_wp2_with fail
      refine (join_any (some ⟨x22.heap.size, 0, none⟩) (some ⟨x23.heap.size, 0, none⟩) 1 1 [(⟨#[113]⟩, 2)] [(⟨#[112]⟩, 1)] _ (Nat.le_refl _) (Nat.le_refl _) (ok_two ⟨#[113]⟩ 2 (by decide) (by decide)) (ok_two ⟨#[112]⟩ 1 (by decide) (by decide)) HA23.out HA24.out).mono ?_
      intro e x25 hj25
      obtain ⟨aj25, cj25, rfl, _, hr25, hb25⟩ := hj25.use
      rw [nj4.1, nj4.2] at *
      have d25 := bt d24 hb25 (Nat.le_refl _)
      have HY := Lib.hid hr25
      clear hj25 hr25 HA23 HA24
      go_wp2_with fail
      generalize hWK : World.alloc _ _ = WK
      have HK : Hid (GrAt WK (exK ⟨x25.heap.size, 0, none⟩ ⟨x25.heap.size + 1 + 1, 0, none⟩ ⟨x25.heap.size + 1, 0, none⟩)) := by
        rw [← hWK]
        refine gr_k (V := 54) (blk_past _ _ (blk_past _ _ (blk_new x25 _))) (blk_past _ _ (blk_two x25 _ _).2) ?_
        have := blk_new ((x25.alloc (.cells #[.int .i64 1] 3)).alloc (.cells #[.int .i64 8388608] 3)) (.cells #[.string ⟨#[112]⟩, .slice (some ⟨x25.heap.size + 1, 0, none⟩) 1 1, .int .i64 8388608] 54)
        simpa using this
      have hbK : Below x25.heap.size x25 WK := by
        rw [← hWK]
        exact (((Below.refl _ _).alloc (Nat.le_refl _) _).alloc (by simp) _).alloc (by simp; omega) _
      have dK := bt d25 hbK (Nat.le_refl _)
      have HY' := Lib.hid (HY.out.below hbK)
      clear HY hWK
      have HY := HY'
      clear HY'
      refine (one_any ⟨#[112]⟩ (-1048576) _).mono ?_
      rintro e x26 ⟨rfl, hA26, hb26⟩
      have d26 := bt dK hb26 (Nat.le_refl _)
      have HA26 := Lib.hid hA26
      have HK' := Lib.hid (HK.out.below hb26)
      have HY' := Lib.hid (HY.out.below hb26)
      clear HK HY hA26
      go_wp2_with fail
      refine (nx6 _ _ _ (some ⟨WK.heap.size, 0, none⟩) 1 _ HK'.out (pfl_at (ok_two ⟨#[112]⟩ (-1048576) (by decide) (by decide)) HA26.out)).mono ?_
      rintro e z1 ⟨rfl, hbz⟩
      have dz := bt d26 hbz (Nat.le_refl _)
      have HY2 := Lib.hid (HY'.out.below hbz)
      obtain ⟨by_, oy, rfl, hcy⟩ := HY2.out 0 _ rfl
      have y0 : z1.cell? ⟨by_, oy, none⟩ = some (.string ⟨#[112]⟩) := by simpa using hcy 0 _ rfl
      clear HY' HK' HA26 hcy
      go_wp2_with fail
      refine (alive_any _).mono ?_
      rintro e z2 ⟨rfl, hbz2⟩
      have dz2 := bt dz hbz2 (Nat.le_refl _)
      go_wp2
      go_ret
      exact ⟨rfl, dz2⟩
end Go.Proofs.Ytmljjofpbonplaa.Mg
