/-
  Margin: the twin is the same grid elsewhere; the walk of SameGrid on such a pair.
-/
import Derived.Test.YtmljjofpbonplaaMg29
import Derived.Test.YtmljjofpbonplaaMgP
import Derived.Deep.CutRange
namespace Go.Proofs.Ytmljjofpbonplaa.Mg
open Go.RowKit Go.Proofs.Ytmljjofpbonplaa Go.Proofs.Ytmljjofpbonplaa.Nm Go.Proofs.Ytmljjofpbonplaa.Ls

/-- no product -/
def pd0 : PD := ⟨⟨#[]⟩, none, 0, 0, fun _ => 0, 0⟩
/-- the twin as a grid -/
def Gr.twin (g : Gr) (wa : Option Addr) (wc : Nat) (pa : Option Addr) (pc : Nat) (ps : List PD) : Gr :=
  g.moved wa wc pa pc (fun i => (ps.getD i pd0).a) (fun i => (ps.getD i pd0).cap)
theorem twin_at {w0 w : World} {g : Gr} {B : Nat} {wa pa : Option Addr} {wc pc : Nat} {ps : List PD} (hG : GrAt w0 g) (hW : AtL w 1 ic wa (iL g.W g.nw)) (hP : AtL w 3 pdc pa ps) (hC : CopyOf w B g g.np ps) :
    GrAt w (g.twin wa wc pa pc ps) := by
  refine ⟨hG.nw, hG.np, hG.pd, L_ints hW, fun i hi => ?_⟩
  have hi2 : i < ps.length := by rw [hC.n]; exact hi
  obtain ⟨h1, h2, h3, h4, h5⟩ := hC.each i hi2
  obtain ⟨b, off, ha, hc⟩ := hP i _ (List.getElem?_eq_getElem hi2)
  have hd : ps.getD i pd0 = ps[i] := by rw [List.getD_eq_getElem?_getD, List.getElem?_eq_getElem hi2]; rfl
  refine ⟨b, off, ha, ?_, ?_, ?_, ?_⟩
  · rw [show ((g.twin wa wc pa pc ps).P i).nm = (g.P i).nm from rfl, ← h1]
    exact hc 0 _ rfl
  · have := hc 1 _ rfl
    rw [show (g.twin wa wc pa pc ps).P i = ⟨(g.P i).nm, (ps.getD i pd0).a, (g.P i).len, (ps.getD i pd0).cap, (g.P i).mv, (g.P i).fee⟩ from rfl, hd, ← h2]
    exact this
  · rw [show ((g.twin wa wc pa pc ps).P i).fee = (g.P i).fee from rfl, ← h4]
    exact hc 2 _ rfl
  · rw [show (g.twin wa wc pa pc ps).P i = ⟨(g.P i).nm, (ps.getD i pd0).a, (g.P i).len, (ps.getD i pd0).cap, (g.P i).mv, (g.P i).fee⟩ from rfl, hd]
    have h6 := (h5.sl ic_len).1
    exact L_ints h6

/-- two blocks more -/
theorem two_more {w wr : World} {o1 o2 : Obj} (hbw : Below w.heap.size w wr) (hX : wr.heap[w.heap.size]? = some o1 ∧ wr.heap[w.heap.size + 1]? = some o2) (o o' : Obj) :
    Below w.heap.size w ((wr.alloc o).alloc o').drew ∧ (((wr.alloc o).alloc o').drew.heap[w.heap.size]? = some o1 ∧ ((wr.alloc o).alloc o').drew.heap[w.heap.size + 1]? = some o2) ∧ ((wr.alloc o).alloc o').drew.heap[wr.heap.size]? = some o ∧ ((wr.alloc o).alloc o').drew.heap[wr.heap.size + 1]? = some o' ∧ Below wr.heap.size wr ((wr.alloc o).alloc o').drew := by
  have h2 := blk_two wr o o'
  exact ⟨((hbw.alloc hbw.size o).alloc (by have := hbw.size; simp; omega) o').drew, ⟨blk_past _ _ (blk_past _ _ hX.1), blk_past _ _ (blk_past _ _ hX.2)⟩, h2.1, h2.2, (((Below.refl _ _).alloc (Nat.le_refl _) o).alloc (by simp) o').drew⟩

set_option maxRecDepth 100000 in
set_option maxHeartbeats 8000000 in
theorem refSameGrid_yes (g : Gr) (wa : Option Addr) (wc : Nat) (pa : Option Addr) (pc : Nat) (ps : List PD) (w : World) (hG : GrAt w g) (hH : GrAt w (g.twin wa wc pa pc ps)) :
    Calls Try.prog 28 #[.agg #[.slice wa g.nw wc, .slice pa g.np pc], .agg #[.slice g.wa g.nw g.wc, .slice g.pa g.np g.pc]] w fun e w' => e = .returned (.bool true) ∧ Below w.heap.size w w' := by
  have hnw := hG.nw
  have hnp := hG.np
  unfold maxLen at hnw hnp
  have HPD := Lib.hid hG.pd
  have HWG := Lib.hid hG.ws
  have HPG := Lib.hid hG.ps
  have HWH := Lib.hid (show IntsAt w wa g.nw g.W from hH.ws)
  have HPH := Lib.hid (show ProdsAt w pa g.np (g.twin wa wc pa pc ps).P from hH.ps)
  have HTP : Hid (∀ i, (g.twin wa wc pa pc ps).P i = ⟨(g.P i).nm, (ps.getD i pd0).a, (g.P i).len, (ps.getD i pd0).cap, (g.P i).mv, (g.P i).fee⟩) := fun i => rfl
  clear hG hH
  generalize (g.twin wa wc pa pc ps).P = Q at HPH HTP
  obtain ⟨a1, ha1⟩ : ∃ x, x = g.wa := ⟨_, rfl⟩
  obtain ⟨a2, ha2⟩ : ∃ x, x = g.pa := ⟨_, rfl⟩
  rw [← ha1] at HWG ⊢
  rw [← ha2] at HPG ⊢
  clear ha1 ha2
  have hbb := blk_two w (.cells #[.slice wa g.nw wc, .slice pa g.np pc] 25) (.cells #[.slice a1 g.nw g.wc, .slice a2 g.np g.pc] 25)
  have hb0 : Below w.heap.size w ((w.alloc (.cells #[.slice wa g.nw wc, .slice pa g.np pc] 25)).alloc (.cells #[.slice a1 g.nw g.wc, .slice a2 g.np g.pc] 25)) := ((Below.refl _ _).alloc (Nat.le_refl _) _).alloc (by simp) _
  have HX0 := Lib.hid hbb
  have HB0 := Lib.hid hb0
  clear hbb hb0
  go_enter Try.func28, Try.ntmps28
  go_wp2_with fail
  go_loopw [5] (fun i wr => ∃ k : Nat, k ≤ g.nw ∧ i = .int .i64 k ∧ Below w.heap.size w wr ∧ Hid (wr.heap[w.heap.size]? = some (.cells #[.slice wa g.nw wc, .slice pa g.np pc] 25 (0, 0)) ∧ wr.heap[w.heap.size + 1]? = some (.cells #[.slice a1 g.nw g.wc, .slice a2 g.np g.pc] 25 (0, 0)))) (fun i _ => g.nw - (intOf i).toNat)
  case atStart => exact ⟨0, by omega, rfl, HB0.out, HX0.out⟩
  case round =>
    clear HX0 HB0
    obtain ⟨k, hk, rfl, hbw, HX⟩ := hrel
    have x0 : wr.cell? ⟨w.heap.size, 0, none⟩ = some (.slice wa g.nw wc) := cell_of HX.out.1 0 _ rfl
    have y0 : wr.cell? ⟨w.heap.size + 1, 0, none⟩ = some (.slice a1 g.nw g.wc) := cell_of HX.out.2 0 _ rfl
    by_cases hlt : k < g.nw
    · obtain ⟨b1, o1, rfl, c1⟩ := (HWH.out.below hbw) k hlt
      obtain ⟨b2, o2, rfl, c2⟩ := (HWG.out.below hbw) k hlt
      have k0 : (0 : Int) ≤ k := by omega
      have k1 : (k : Int) < g.nw := by omega
      have HXR := Lib.hid (fun n => (show (wr.drewN n).heap[w.heap.size]? = some (.cells #[.slice (some ⟨b1, o1, none⟩) g.nw wc, .slice pa g.np pc] 25 (0, 0)) ∧ (wr.drewN n).heap[w.heap.size + 1]? = some (.cells #[.slice (some ⟨b2, o2, none⟩) g.nw g.wc, .slice a2 g.np g.pc] 25 (0, 0)) from HX.out))
      go_wp2_with fail
      go_quiet (fail)
      go_wp2
      go_roundw
      case rel => exact ⟨k + 1, by omega, by go_num, below_drewN hbw _, HXR.out _⟩
      case measure => simp [intOf]; omega
    · obtain rfl : k = g.nw := by omega
      clear hlt
      have HBW := Lib.hid hbw
      go_wp2_with fail
      clear x0 y0 hbw
      go_loopw [6, 7, 8, 9] (fun i _ _ _ wq => ∃ k : Nat, k ≤ g.np ∧ i = .int .i64 k ∧ Below w.heap.size w wq ∧ Hid (wq.heap[w.heap.size]? = some (.cells #[.slice wa g.nw wc, .slice pa g.np pc] 25 (0, 0)) ∧ wq.heap[w.heap.size + 1]? = some (.cells #[.slice a1 g.nw g.wc, .slice a2 g.np g.pc] 25 (0, 0)))) (fun i _ _ _ _ => g.np - (intOf i).toNat)
      case atStart => exact ⟨0, by omega, rfl, HBW.out, HX.out⟩
      case round =>
        clear HX HBW
        obtain ⟨k, hk, rfl, hbw, HX⟩ := hrel
        have x1 : wr.cell? ⟨w.heap.size, 1, none⟩ = some (.slice pa g.np pc) := cell_of HX.out.1 1 _ rfl
        have y1 : wr.cell? ⟨w.heap.size + 1, 1, none⟩ = some (.slice a2 g.np g.pc) := cell_of HX.out.2 1 _ rfl
        by_cases hlt : k < g.np
        · obtain ⟨b1, o1, rfl, p0, p1, p2, pI⟩ := (HPH.out.below hbw) k hlt
          obtain ⟨b2, o2, rfl, q0, q1, q2, qI⟩ := (HPG.out.below hbw) k hlt
          have hLen := (HPD.out k).2
          rw [HTP.out k] at p0 p1 p2 pI
          have HPI := Lib.hid pI
          have HQI := Lib.hid qI
          clear pI qI
          generalize g.P k = z at *
          generalize (ps.getD k pd0).a = A at *
          generalize (ps.getD k pd0).cap = C at *
          have k0 : (0 : Int) ≤ k := by omega
          have k1 : (k : Int) < g.np := by omega
          have hs1 : w.heap.size + 1 < wr.heap.size := blk_lt HX.out.2
          have hs2 : b1 < wr.heap.size := World.block_lt_of_cell? _ _ p0
          have hs3 : b2 < wr.heap.size := World.block_lt_of_cell? _ _ q0
          have n1 : wr.heap.size ≠ w.heap.size := by omega
          have n2 : wr.heap.size ≠ w.heap.size + 1 := by omega
          have n3 : wr.heap.size ≠ b1 := by omega
          have n4 : wr.heap.size ≠ b2 := by omega
          have n5 : wr.heap.size + 1 ≠ w.heap.size := by omega
          have n6 : wr.heap.size + 1 ≠ w.heap.size + 1 := by omega
          have n7 : wr.heap.size + 1 ≠ b1 := by omega
          have n8 : wr.heap.size + 1 ≠ b2 := by omega
          have n9 : wr.heap.size ≠ wr.heap.size + 1 := by omega
          have n10 : wr.heap.size + 1 ≠ wr.heap.size := by omega
          have x1a := fun o => keep x1 ((Below.refl _ _).alloc (Nat.le_refl _) o)
          have x1b := fun o o' => keep (x1a o) ((Below.refl _ _).alloc (Nat.le_refl _) o')
          have y1a := fun o => keep y1 ((Below.refl _ _).alloc (Nat.le_refl _) o)
          have y1b := fun o o' => keep (y1a o) ((Below.refl _ _).alloc (Nat.le_refl _) o')
          have p0a := fun o => keep p0 ((Below.refl _ _).alloc (Nat.le_refl _) o)
          have p0b := fun o o' => keep (p0a o) ((Below.refl _ _).alloc (Nat.le_refl _) o')
          have p1a := fun o => keep p1 ((Below.refl _ _).alloc (Nat.le_refl _) o)
          have p1b := fun o o' => keep (p1a o) ((Below.refl _ _).alloc (Nat.le_refl _) o')
          have p2a := fun o => keep p2 ((Below.refl _ _).alloc (Nat.le_refl _) o)
          have p2b := fun o o' => keep (p2a o) ((Below.refl _ _).alloc (Nat.le_refl _) o')
          have q0a := fun o => keep q0 ((Below.refl _ _).alloc (Nat.le_refl _) o)
          have q0b := fun o o' => keep (q0a o) ((Below.refl _ _).alloc (Nat.le_refl _) o')
          have q1a := fun o => keep q1 ((Below.refl _ _).alloc (Nat.le_refl _) o)
          have q1b := fun o o' => keep (q1a o) ((Below.refl _ _).alloc (Nat.le_refl _) o')
          have q2a := fun o => keep q2 ((Below.refl _ _).alloc (Nat.le_refl _) o)
          have q2b := fun o o' => keep (q2a o) ((Below.refl _ _).alloc (Nat.le_refl _) o')
          go_upto_region 11 with fail
          go_cut [7, 8] from 44 to 99 (fun p q wn => ∃ B1 B2 : Nat, p = .pointer (some ⟨B1, 0, none⟩) ∧ q = .pointer (some ⟨B2, 0, none⟩) ∧ Hid (wn.heap[B1]? = some (.cells #[.string z.nm, .slice A z.len C, .int .i64 z.fee] 54 (0, 0))) ∧ Hid (wn.heap[B2]? = some (.cells #[.string z.nm, .slice z.a z.len z.cap, .int .i64 z.fee] 54 (0, 0))) ∧ Hid (IntsAt wn A z.len z.mv) ∧ Hid (IntsAt wn z.a z.len z.mv) ∧ Hid (Below w.heap.size w wn) ∧
            Hid (wn.heap[w.heap.size]? = some (.cells #[.slice wa g.nw wc, .slice (some ⟨b1, o1, none⟩) g.np pc] 25 (0, 0)) ∧ wn.heap[w.heap.size + 1]? = some (.cells #[.slice a1 g.nw g.wc, .slice (some ⟨b2, o2, none⟩) g.np g.pc] 25 (0, 0))))
          case first =>
            go_region
            all_goals
              clear x1 y1 p0 p1 p2 q0 q1 q2 x1a y1a p0a p1a p2a q0a q1a q2a x1b y1b p0b p1b p2b q0b q1b q2b n1 n2 n3 n4 n5 n6 n7 n8 n9 n10
              first
                | change Exit.then _ _ _ _ ((wr.alloc (.cells #[.string z.nm, .slice A z.len C, .int .i64 z.fee] 54)).alloc (.cells #[.string z.nm, .slice z.a z.len z.cap, .int .i64 z.fee] 54)).drew
                  have HTW := Lib.hid (two_more hbw HX.out (.cells #[.string z.nm, .slice A z.len C, .int .i64 z.fee] 54) (.cells #[.string z.nm, .slice z.a z.len z.cap, .int .i64 z.fee] 54))
                  generalize ((wr.alloc (.cells #[.string z.nm, .slice A z.len C, .int .i64 z.fee] 54)).alloc (.cells #[.string z.nm, .slice z.a z.len z.cap, .int .i64 z.fee] 54)).drew = wn at HTW ⊢
                  have HP1 := Lib.hid HTW.out.2.2.1
                  have HQ1 := Lib.hid HTW.out.2.2.2.1
                | change Exit.then _ _ _ _ ((wr.alloc (.cells #[.string z.nm, .slice z.a z.len z.cap, .int .i64 z.fee] 54)).alloc (.cells #[.string z.nm, .slice A z.len C, .int .i64 z.fee] 54)).drew
                  have HTW := Lib.hid (two_more hbw HX.out (.cells #[.string z.nm, .slice z.a z.len z.cap, .int .i64 z.fee] 54) (.cells #[.string z.nm, .slice A z.len C, .int .i64 z.fee] 54))
                  generalize ((wr.alloc (.cells #[.string z.nm, .slice z.a z.len z.cap, .int .i64 z.fee] 54)).alloc (.cells #[.string z.nm, .slice A z.len C, .int .i64 z.fee] 54)).drew = wn at HTW ⊢
                  have HP1 := Lib.hid HTW.out.2.2.2.1
                  have HQ1 := Lib.hid HTW.out.2.2.1
              go_wp2
              go_meet
              case rel => exact ⟨_, _, rfl, rfl, HP1, HQ1, HPI.out.below HTW.out.2.2.2.2, HQI.out.below HTW.out.2.2.2.2, HTW.out.1, HTW.out.2.1⟩
          case rest =>
            clear x1 y1 p0 p1 p2 q0 q1 q2 x1a y1a p0a p1a p2a q0a q1a q2a x1b y1b p0b p1b p2b q0b q1b q2b n1 n2 n3 n4 n5 n6 n7 n8 n9 n10 hs1 hs2 hs3 HX HPI HQI hbw
            obtain ⟨B1, B2, rfl, rfl, HP1, HQ1, HPI, HQI, HBN, HXN⟩ := hcut
            have g0 := cell_of HP1.out 0 (.string z.nm) rfl
            have g1 := cell_of HP1.out 1 (.slice A z.len C) rfl
            have g2 := cell_of HP1.out 2 (.int .i64 z.fee) rfl
            have j0 := cell_of HQ1.out 0 (.string z.nm) rfl
            have j1 := cell_of HQ1.out 1 (.slice z.a z.len z.cap) rfl
            have j2 := cell_of HQ1.out 2 (.int .i64 z.fee) rfl
            unfold maxLen at hLen
            go_wp2_with fail
            clear g0 g1 g2 j0 j1 j2
            rename World => wn
            go_loopw [9] (fun i wq => ∃ m : Nat, m ≤ z.len ∧ i = .int .i64 m ∧ ∃ n, wq = wn.drewN n) (fun i _ => z.len - (intOf i).toNat)
            case atStart => exact ⟨0, by omega, rfl, 0, rfl⟩
            case round =>
              obtain ⟨m, hm, rfl, n, rfl⟩ := hrel
              have g1 : wn.cell? ⟨B1, 1, none⟩ = some (.slice A z.len C) := cell_of HP1.out 1 _ rfl
              have j1 : wn.cell? ⟨B2, 1, none⟩ = some (.slice z.a z.len z.cap) := cell_of HQ1.out 1 _ rfl
              by_cases hlm : m < z.len
              · obtain ⟨bx, ox, rfl, cx⟩ := HPI.out m hlm
                obtain ⟨b_, oy, hza, cy⟩ := HQI.out m hlm
                rw [hza] at j1
                have m0 : (0 : Int) ≤ m := by omega
                have m1 : (m : Int) < z.len := by omega
                clear HPI HQI hza
                generalize z.a = za at *
                go_wp2_with fail
                go_quiet (fail)
                go_wp2
                go_roundw
                case rel => exact ⟨m + 1, by omega, by go_num, _, rfl⟩
                case measure => simp [intOf]; omega
              · obtain rfl : m = z.len := by omega
                have HB2 := Lib.hid (below_drewN HBN.out n)
                have HX2 := Lib.hid (show (wn.drewN n).heap[w.heap.size]? = some (.cells #[.slice wa g.nw wc, .slice (some ⟨b1, o1, none⟩) g.np pc] 25 (0, 0)) ∧ (wn.drewN n).heap[w.heap.size + 1]? = some (.cells #[.slice a1 g.nw g.wc, .slice (some ⟨b2, o2, none⟩) g.np g.pc] 25 (0, 0)) from HXN.out)
                clear hlm
                go_wp2_with fail
                go_roundw
                case rel => exact ⟨k + 1, by omega, by go_num, HB2.out, HX2⟩
                case measure => simp [intOf]; omega
        · obtain rfl : k = g.np := by omega
          clear hlt
          go_wp2_with fail
          go_ret
          exact ⟨rfl, hbw⟩
end Go.Proofs.Ytmljjofpbonplaa.Mg
