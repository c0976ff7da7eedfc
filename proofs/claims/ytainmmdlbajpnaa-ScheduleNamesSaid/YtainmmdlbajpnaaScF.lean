/-
  The library's slices.Grow, slices.Concat, slices.Reverse at numbers.
-/
import Derived.Test.YtainmmdlbajpnaaKb
import Derived.Lib.AppendZerosOnto
import Derived.Shelf.Slices.Reverse
import Derived.Sort.WalkB12
import Derived.Lib.SlicesMore
import Derived.Deep.LoopGhost
import Derived.Shelf.RegionOpenPlain
namespace Go.Proofs.Ytainmmdlbajpnaa.Sc
open Go.RowKit Go.Proofs.Ytainmmdlbajpnaa Go.Proofs.Ytainmmdlbajpnaa.Ls Go.Proofs.Ytainmmdlbajpnaa.Kb

theorem infoI' : (Try.prog.info? 3).map (fun i => (i.zero, i.size, i.bytes)) = some (some (.int .i64 0), 1, 8) := by kernel_rfl

set_option maxHeartbeats 1000000 in
theorem grow_any (n : Nat) (w : World) (h0 : 0 < n) (hn : n ≤ 100000) :
    Calls Try.prog 47 #[.slice none 0 0, .int .i64 n] w fun e w' => ∃ a c, e = .returned (.slice a 0 c) ∧ OwnL w' w.heap.size 3 1 ic (.slice a 0 c) [] ∧ Below w.heap.size w w' := by
  obtain ⟨i0, hi, hz0, hz1, hz2⟩ := info_parts infoI'
  have hold : (Builtin.firstCells i0.size 0 (.slice none 0 0)).run Try.prog w.drew = .ok ([] : List Value).toArray w.drew := run_firstCells_none w.drew i0.size 0 0 0
  have hrz : ∀ ty, (Builtin.append_ #[22, 3] ty #[.slice none 0 0, .int .i64 n]).run Try.prog w = .ok (.slice (some ⟨w.heap.size, 0, none⟩) n (grownCap w n 0 3)) (w.drew.alloc (.cells (([] : List Value).toArray ++ Builtin.zeroCells (Value.int .i64 0).cells n ++ Builtin.zeroCells (Value.int .i64 0).cells (grownCap w n 0 3 - n)) 3)) := fun ty => by
    have h := Lib.run_append_grow_zeros w 22 3 ty 3 i0 (.int .i64 0) .i64 .i64 Try.underlying22 Try.underlying3 hi hz0 none 0 0 [] hold n h0 (by omega) (by omega) (by omega) (by rw [hz2]; omega) (by exact growslice_fits (by omega) (by rw [hz2]; omega))
    simpa using h
  have hG1 : n ≤ grownCap w n 0 3 := grownCap_ge w _ _ _
  have hG2 : grownCap w n 0 3 ≤ maxLen := grownCap_le_maxLen w n 0 3 (by unfold maxLen; omega)
  generalize grownCap w n 0 3 = G at hrz hG1 hG2
  have hG3 : G ≤ 9223372036854775807 := by unfold maxLen at hG2; omega
  have HO : Hid (OwnL (w.drew.alloc (.cells (([] : List Value).toArray ++ Builtin.zeroCells (Value.int .i64 0).cells n ++ Builtin.zeroCells (Value.int .i64 0).cells (G - n)) 3)) w.heap.size 3 1 ic (.slice (some ⟨w.heap.size, 0, none⟩) 0 G) []) := by
    refine ⟨by simp, .inr ⟨w.heap.size, G, _, rfl, Nat.le_refl _, blk_new w.drew _, by simp, hG2, ?_, by simp⟩⟩
    simp only [Array.size_append, size_zeroCells]
    simp [Value.cells]
    omega
  have HB : Hid (Below w.heap.size w (w.drew.alloc (.cells (([] : List Value).toArray ++ Builtin.zeroCells (Value.int .i64 0).cells n ++ Builtin.zeroCells (Value.int .i64 0).cells (G - n)) 3))) := ((Below.refl _ _).drew).alloc (Nat.le_refl _) _
  generalize w.drew.alloc _ = w9 at hrz HO HB
  clear hold hG2 hi hz0 hz1 hz2
  go_enter Try.func47, Try.ntmps47
  go_wp2_with (at_builtin; refine Lib.wpList_append_run _ rfl _ _ _ _ rfl _ _ rfl rfl _ _ (hrz _) ?_)
  all_goals
    go_ret
    exact ⟨_, _, rfl, HO.out, HB.out⟩

/-- a slice of slices of numbers -/
structure Sl where
  a : Option Addr
  c : Nat
  xs : List Int
def sc (s : Sl) : List Value := [.slice s.a s.xs.length s.c]
theorem sc_len (s : Sl) : (sc s).length = 1 := rfl
theorem ic_one (x : Int) : ∀ u ∈ ic x, u.oneCell' = true := by simp [ic, Value.oneCell']
def cat (ss : List Sl) : List Int := ss.flatMap (·.xs)
theorem cat_take (ss : List Sl) (k : Nat) (h : k < ss.length) : cat (ss.take (k + 1)) = cat (ss.take k) ++ ss[k].xs := by
  unfold cat
  rw [← List.take_append_getElem h, List.flatMap_append]
  simp
theorem cat_le (ss : List Sl) (k : Nat) : (cat (ss.take k)).length ≤ (cat ss).length := by
  unfold cat
  conv => rhs; rw [← List.take_append_drop k ss, List.flatMap_append, List.length_append]
  omega

set_option maxRecDepth 100000 in
set_option maxHeartbeats 1000000 in
theorem concat_any (a : Option Addr) (c : Nat) (ss : List Sl) (w : World) (hA : AtL w 1 sc a ss) (hS : ∀ s ∈ ss, AtL w 1 ic s.a s.xs) (h0 : 0 < (cat ss).length) (hn : (cat ss).length ≤ 100000) (hss : ss.length ≤ 1000) :
    Calls Try.prog 28 #[.slice a ss.length c] w fun e w' => ∃ a' c', e = .returned (.slice a' (cat ss).length c') ∧ OwnL w' w.heap.size 3 1 ic (.slice a' (cat ss).length c') (cat ss) ∧ Below w.heap.size w w' := by
  have HA := Lib.hid hA
  have HS := Lib.hid hS
  clear hA hS
  go_enter Try.func28, Try.ntmps28
  go_wp2_with fail
  go_loopw [3, 5, 11] (fun z _ i wr => ∃ k : Nat, k ≤ ss.length ∧ i = .int .i64 k ∧ z = .int .i64 (cat (ss.take k)).length ∧ w = wr) (fun _ _ i _ => ss.length - (intOf i).toNat)
  case atStart => exact ⟨0, by omega, rfl, by simp [cat], rfl⟩
  case round =>
    obtain ⟨k, hk, rfl, rfl, rfl⟩ := hrel
    rcases Nat.lt_or_ge k ss.length with g | g
    · obtain ⟨b, off, rfl, hc⟩ := HA.out k _ (List.getElem?_eq_getElem g)
      have q : w.cell? ⟨b, off + k, none⟩ = some (.slice ss[k].a ss[k].xs.length ss[k].c) := by
        have := hc 0 _ rfl
        simpa using this
      have hg : (k : Int) < ss.length := by omega
      have h1 := cat_take ss k g
      have h2 : (cat (ss.take (k + 1))).length = (cat (ss.take k)).length + ss[k].xs.length := by rw [h1, List.length_append]
      have h3 := cat_le ss (k + 1)
      rw [h2] at h3
      have H2 := Lib.hid h2
      clear h1 h2 hc
      go_wp2_with fail
      go_roundw
      case rel =>
        refine ⟨k + 1, by omega, by go_num, ?_, trivial⟩
        rw [H2.out]
        go_num
      case measure => simp [intOf]; omega
    · obtain rfl : k = ss.length := by omega
      clear hk g
      rw [List.take_length]
      have hz : (0 : Int) < (cat ss).length := by omega
      go_wp2_with fail
      refine (grow_any (cat ss).length w h0 hn).mono ?_
      rintro e w1 ⟨ga, gc, rfl, hO, hB⟩
      have HO := Lib.hid hO
      clear hO
      go_wp2_with fail
      go_loopw [6, 8, 27] (fun v _ i wq => ∃ (k : Nat) (a' : Option Addr) (c' : Nat), k ≤ ss.length ∧ i = .int .i64 k ∧ v = .slice a' (cat (ss.take k)).length c' ∧ Hid (OwnL wq w.heap.size 3 1 ic (.slice a' (cat (ss.take k)).length c') (cat (ss.take k))) ∧ Below w.heap.size w wq) (fun _ _ i _ => ss.length - (intOf i).toNat)
      case atStart => exact ⟨0, ga, gc, by omega, rfl, by simp [cat], by simpa [cat] using HO, hB⟩
      case round =>
        clear HO hB
        obtain ⟨k, a', c', hk, rfl, rfl, HO, hB⟩ := hrel
        have hBs := hB.size
        rcases Nat.lt_or_ge k ss.length with g | g
        · obtain ⟨b, off, rfl, hc⟩ := (HA.out.below hB) k _ (List.getElem?_eq_getElem g)
          have q : wr.cell? ⟨b, off + k, none⟩ = some (.slice ss[k].a ss[k].xs.length ss[k].c) := by
            have := hc 0 _ rfl
            simpa using this
          have hg : (k : Int) < ss.length := by omega
          have h1 := cat_take ss k g
          have h2 : (cat (ss.take (k + 1))).length = (cat (ss.take k)).length + ss[k].xs.length := by rw [h1, List.length_append]
          have h3 := cat_le ss (k + 1)
          rw [h2] at h3
          have H1 := Lib.hid h1
          have H2 := Lib.hid h2
          have hAk := Lib.hid ((HS.out ss[k] (List.getElem_mem g)).below hB)
          clear h1 h2 hc
          go_wp2_with (at_builtin; refine wpList_append_LL wr (P := Try.prog) (α := Int) rfl _ _ _ rfl 3 (.int .i64 0) 1 8 Try.underlying22 infoI' rfl (by decide) w.heap.size ic ic_len ic_one (.slice a' (cat (ss.take k)).length c') (cat (ss.take k)) ss[k].xs ss[k].a ss[k].c rfl rfl HO.out hAk.out (by unfold maxLen; omega) (by omega) hBs ?_; intro a3 c3 w3 ho3 hg3)
          go_roundw
          case rel =>
            refine ⟨k + 1, a3, c3, by omega, by go_num, ?_, ?_, ?_⟩
            · rw [H2.out]
            · unfold Hid
              rw [H2.out, H1.out]
              exact ho3
            · exact hB.grown hg3 hBs (fun j hj => (HO.out.lt j hj).1)
          case measure => simp [intOf]; omega
        · obtain rfl : k = ss.length := by omega
          rw [List.take_length] at HO ⊢
          go_wp2
          go_ret
          exact ⟨_, _, rfl, HO.out, hB⟩

/-- the front of a slice of the call's own -/
theorem own_take {w : World} {B : Nat} {T : TypeId} {a : Option Addr} {n c m : Nat} {xs : List Int} (h : OwnL w B T 1 ic (.slice a n c) xs) (hm : m ≤ xs.length) : OwnL w B T 1 ic (.slice a m c) (xs.take m) := by
  have hl : (xs.take m).length = m := by rw [List.length_take]; omega
  have hf : ∀ ys : List Int, ys.flatMap ic = ys.map (Value.int .i64) := fun ys => by
    induction ys with
    | nil => rfl
    | cons y ys ih => rw [List.flatMap_cons, ih]; rfl
  unfold OwnL
  rw [hl]
  refine ⟨by rw [hf]; simp; omega, ?_⟩
  rcases h.2 with ⟨hv, hn⟩ | ⟨g, cap, cur, hv, hb, hg, hnc, hcm, hcs, htk⟩
  · injection hv with e1 e2 e3
    have hm0 : m = 0 := by omega
    subst e1
    subst e3
    subst hm0
    exact .inl ⟨rfl, rfl⟩
  · injection hv with e1 e2 e3
    subst e1
    subst e3
    refine .inr ⟨g, c, cur, rfl, hb, hg, by omega, hcm, hcs, ?_⟩
    rw [hf] at htk ⊢
    rw [List.map_take, ← htk, List.take_take]
    congr 1
    omega

open Go.Sort in
set_option maxHeartbeats 1600000 in
set_option maxRecDepth 1000000 in
theorem rev_arr (blk off cap : Nat) (d : Array Int) (w : World) (hH : Holds encI w blk off d) (hsz : d.size ≤ 9223372036854775807) :
    Calls Try.prog 27 #[.slice (some ⟨blk, off, none⟩) d.size cap] w fun e w' => e = .returned (.tuple #[]) ∧ ∃ n, w' = putRow encI (Sort.ahead w n) blk off d.reverse := by
  have mixed : Try.prog.follows .mixedOrders = true := by kernel_rfl
  go_enter Try.func27, Try.ntmps27
  go_wp2
  go_loopg [2, 3] d.size (fun k s2 s3 wr => ∃ (i jn : Nat) (jz : Int) (dk : Array Int) (n : Nat), s2 = .int .i64 i ∧ s3 = .int .i64 jz ∧ ((i : Int) < jz → jz = jn ∧ jn < d.size) ∧ (¬ (i : Int) < jz → ¬ i < jn) ∧ jn - i ≤ k ∧
    dk.size = d.size ∧ wr = putRow encI (Sort.ahead w n) blk off dk ∧ reverseLoop i jn dk = reverseLoop 0 (d.size - 1) d)
  case atStart => exact ⟨0, d.size - 1, (d.size : Int) - 1, d, 0, rfl, rfl, fun h => ⟨by omega, by omega⟩, fun h => by omega, by omega, rfl, (putRow_self encI w blk off d hH).symm, rfl⟩
  case round =>
    obtain ⟨i, jn, jz, dk, n, rfl, rfl, h1, h2, hk, hds, hwr, heq⟩ := hrel
    by_cases hlt : (i : Int) < jz
    · obtain ⟨rfl, hjn⟩ := h1 hlt
      have hij : i < jn := by omega
      have hHk : Holds encI wr blk off dk := by rw [hwr]; exact holds_putRow encI _ blk off d dk (holds_ahead encI w n blk off d hH) hds
      obtain ⟨ci, fi⟩ := hHk i (by omega)
      obtain ⟨cj, fj⟩ := hHk jn (by omega)
      have A := Lib.hid hwr
      clear hwr hHk hH h1 h2
      go_wp2_with fail
      go_region_o
      go_wp2
      go_roundg (jn - 1 - (i + 1))
      case measure => omega
      case rel =>
        rw [reverseLoop, if_pos hij] at heq
        exact ⟨i + 1, jn - 1, (jn : Int) - 1, swp dk i jn, n + 1, by simp, rfl, fun h => ⟨by omega, by omega⟩, fun h => by omega, Nat.le_refl _, by rw [size_swp]; exact hds,
          swap_world encI (by omega) (by omega) A.out (by first | rfl | simp [encI, getElem!_pos, show jn < dk.size by omega]) (by first | rfl | simp [encI, getElem!_pos, show i < dk.size by omega]), heq⟩
    · have hnot := h2 hlt
      go_wp2
      go_end0
      refine ⟨rfl, n, ?_⟩
      rw [reverseLoop, if_neg hnot] at heq
      rw [← Lib.reverseLoop_reverse, ← heq]

open Go.Sort in
theorem putRow_far (w : World) (n blk off : Nat) (d : Array Int) (k : Nat) (h : k ≠ blk) : (putRow encI (Sort.ahead w n) blk off d).heap[k]? = w.heap[k]? := by
  unfold putRow mapBlock Sort.ahead
  simp only [Array.getElem?_modify]
  rw [if_neg (by omega)]

open Go.Sort in
/-- a slice of the call's own, turned round -/
theorem rev_any (B n c : Nat) (a : Option Addr) (xs : List Int) (w : World) (h : OwnL w B 3 1 ic (.slice a n c) xs) (hn : xs.length ≤ 100000) :
    Calls Try.prog 27 #[.slice a n c] w fun e w' => e = .returned (.tuple #[]) ∧ AtL w' 1 ic a xs.reverse ∧ Below B w w' := by
  have hl : n = xs.length := (h.sl ic_len).2.1
  subst hl
  have hat := (h.sl ic_len).1
  rcases h.2 with ⟨hv, hn0⟩ | ⟨g, cap, cur, hv, hb, hg, hnc, hcm, hcs, htk⟩
  · obtain rfl : xs = [] := List.length_eq_zero_iff.1 hn0
    have mixed : Try.prog.follows .mixedOrders = true := by kernel_rfl
    go_enter Try.func27, Try.ntmps27
    go_wp2
    go_loopg [2, 3] 0 (fun _ s2 s3 wr => s2 = .int .i64 0 ∧ s3 = .int .i64 (-1) ∧ w = wr)
    case atStart => exact ⟨rfl, rfl, rfl⟩
    case round =>
      obtain ⟨rfl, rfl, rfl⟩ := hrel
      go_wp2
      go_end0
      exact ⟨rfl, AtL.nil _ _ _ _, Below.refl _ _⟩
  · injection hv with e1 e2 e3
    subst e1
    subst e3
    have hH : Holds encI w g 0 xs.toArray := fun j hj => by
      have hj' : j < xs.length := by simpa using hj
      refine ⟨?_, frozen_of hg _⟩
      have := at_int' hat j hj'
      rw [this]
      simp [encI, List.getD_eq_getElem?_getD, hj']
    refine Calls.mono (rev_arr g 0 c xs.toArray w hH (by simp; omega)) ?_
    rintro e w' ⟨rfl, q, rfl⟩
    refine ⟨rfl, fun i x hx => ⟨g, 0, rfl, fun j u hu => ?_⟩, ⟨rfl, rfl, rfl, by simp [Sort.ahead], fun k hk => putRow_far w q g 0 _ k (by omega)⟩⟩
    have hi : i < xs.reverse.length := (List.getElem?_eq_some_iff.1 hx).1
    have hj : j = 0 ∧ u = .int .i64 x := by
      cases j with
      | zero => exact ⟨rfl, by simpa [ic] using hu.symm⟩
      | succ j => simp [ic] at hu
    obtain ⟨rfl, rfl⟩ := hj
    have h2 := (holds_putRow encI (Sort.ahead w q) g 0 xs.toArray xs.toArray.reverse (holds_ahead encI w q g 0 _ hH) (by simp)) i (by simpa using hi)
    have h3 := h2.1
    have h4 : xs.toArray.reverse[i]! = x := by
      have hi' : i < xs.length := by simpa using hi
      rw [List.getElem?_eq_getElem hi] at hx
      have hx := Option.some.inj hx
      rw [← hx]
      simp [hi']
    rw [h4] at h3
    simpa using h3

end Go.Proofs.Ytainmmdlbajpnaa.Sc
