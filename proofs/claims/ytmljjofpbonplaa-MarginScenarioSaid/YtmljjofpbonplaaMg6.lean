/-
  Margin: losses, plain; the walk of margin.losses.
-/
import Derived.Test.YtmljjofpbonplaaMg5
import Derived.RegionTactic
import Derived.ChangeAlike
import Derived.Laws.MakeOwn
namespace Go.Proofs.Ytmljjofpbonplaa.Mg
open Go.RowKit Go.Proofs.Ytmljjofpbonplaa Go.Proofs.Ytmljjofpbonplaa.Nm

/-- the index of a product -/
def idx (P : Nat → PD) (np : Nat) (t : ByteArray) : Nat := ((List.range np).find? fun i => decide ((P i).nm = t)).getD 0
theorem idx_spec {P : Nat → PD} {np : Nat} {t : ByteArray} (h : hasB P np t = true) : idx P np t < np ∧ (P (idx P np t)).nm = t := by
  unfold idx
  obtain ⟨I, hI, e⟩ := hasB_yes h
  cases hf : (List.range np).find? fun i => decide ((P i).nm = t) with
  | none =>
    rw [List.find?_eq_none] at hf
    exact absurd (decide_eq_true e) (hf I (List.mem_range.2 hI))
  | some j =>
    have h1 := List.find?_some hf
    have h2 := List.mem_of_find?_eq_some hf
    exact ⟨List.mem_range.1 h2, of_decide_eq_true h1⟩

/-- what a valid grid and a portfolio that fits give -/
structure Fit (W : Nat → Int) (nw : Nat) (P : Nat → PD) (np : Nat) (T : Nat → ByteArray) (Q : Nat → Int) (n : Nat) : Prop where
  g : GridOk W nw P np
  p : PfOk T Q n
  has : ∀ i, i < n → hasB P np (T i) = true
theorem fitB_ok {W : Nat → Int} {nw : Nat} {P : Nat → PD} {np : Nat} {T : Nat → ByteArray} {Q : Nat → Int} {n : Nat} (h : fitB W nw P np T Q n = true) : Fit W nw P np T Q n := by
  unfold fitB at h
  rw [Bool.and_eq_true, Bool.and_eq_true, List.all_eq_true] at h
  exact ⟨gridB_ok h.1, pfB_ok h.2.1, fun i hi => h.2.2 i (List.mem_range.2 hi)⟩
theorem fitB_of {W : Nat → Int} {nw : Nat} {P : Nat → PD} {np : Nat} {T : Nat → ByteArray} {Q : Nat → Int} {n : Nat} (h : Fit W nw P np T Q n) : fitB W nw P np T Q n = true := by
  unfold fitB
  rw [gridB_of h.g, pfB_of h.p, Bool.true_and, Bool.true_and, List.all_eq_true]
  exact fun i hi => h.has i (List.mem_range.1 hi)

/-- the move of a product in a scenario -/
def mvOf (P : Nat → PD) (np : Nat) (t : ByteArray) (s : Nat) : Int := (P (idx P np t)).mv s
/-- the loss of the first positions -/
def lossUp (P : Nat → PD) (np : Nat) (T : Nat → ByteArray) (Q : Nat → Int) : Nat → Nat → Int
  | 0, _ => 0
  | k + 1, s => lossUp P np T Q k s - Q k * mvOf P np (T k) s

theorem mul_bd (a b A B : Int) (h : -A ≤ a ∧ a ≤ A) (k : -B ≤ b ∧ b ≤ B) : -(A * B) ≤ a * b ∧ a * b ≤ A * B := by
  have hA : 0 ≤ A := by omega
  have hB : 0 ≤ B := by omega
  have h1 : a.natAbs ≤ A.toNat := by omega
  have h2 : b.natAbs ≤ B.toNat := by omega
  have h3 : (a * b).natAbs ≤ A.toNat * B.toNat := by rw [Int.natAbs_mul]; exact Nat.mul_le_mul h1 h2
  have h4 : ((A.toNat * B.toNat : Nat) : Int) = A * B := by rw [Int.natCast_mul, Int.toNat_of_nonneg hA, Int.toNat_of_nonneg hB]
  omega

theorem Fit.mv {W : Nat → Int} {nw : Nat} {P : Nat → PD} {np : Nat} {T : Nat → ByteArray} {Q : Nat → Int} {n : Nat} (h : Fit W nw P np T Q n) (k s : Nat) (hk : k < n) (hs : s < nw) :
    (-8388608 ≤ mvOf P np (T k) s ∧ mvOf P np (T k) s ≤ 8388608) ∧ (-8796093022208 ≤ Q k * mvOf P np (T k) s ∧ Q k * mvOf P np (T k) s ≤ 8796093022208) := by
  have h1 := idx_spec (h.has k hk)
  have h2 := h.g.mv _ h1.1 s hs
  have h3 := mul_bd (Q k) (mvOf P np (T k) s) 1048576 8388608 (h.p.q k hk) h2
  exact ⟨h2, by omega⟩
theorem Fit.loss {W : Nat → Int} {nw : Nat} {P : Nat → PD} {np : Nat} {T : Nat → ByteArray} {Q : Nat → Int} {n : Nat} (h : Fit W nw P np T Q n) (k s : Nat) (hk : k ≤ n) (hs : s < nw) :
    -(8796093022208 * k) ≤ lossUp P np T Q k s ∧ lossUp P np T Q k s ≤ 8796093022208 * k := by
  induction k with
  | zero => simp [lossUp]
  | succ k ih =>
    have h1 := ih (by omega)
    have h2 := (h.mv k s (by omega) hs).2
    rw [lossUp]
    omega

/-- numbers as cells -/
def arrI (n : Nat) (v : Nat → Int) : Array Value := ((List.range n).map fun s => Value.int .i64 (v s)).toArray
theorem arrI_get (n : Nat) (v : Nat → Int) (s : Nat) (hs : s < n) : (arrI n v)[s]? = some (.int .i64 (v s)) := by
  simp [arrI, hs]
def upd (v : Nat → Int) (s : Nat) (x : Int) : Nat → Int := fun i => if i = s then x else v i
theorem arrI_set {w : World} {B n : Nat} {v : Nat → Int} {t : TypeId} (h : w.heap[B]? = some (.cells (arrI n v) t (0, 0))) (s : Nat) (x : Int) : (w.setCell ⟨B, s, none⟩ (.int .i64 x)).heap[B]? = some (.cells (arrI n (upd v s x)) t (0, 0)) := by
  have e : (arrI n v).setIfInBounds s (.int .i64 x) = arrI n (upd v s x) := by
    apply Array.ext_getElem?
    intro i
    rw [Array.getElem?_setIfInBounds]
    by_cases hi : s = i
    · subst hi
      by_cases hn : s < n
      · simp [arrI, upd, hn]
      · simp [arrI, hn]
    · by_cases hn : i < n
      · have hi2 : ¬ i = s := fun k => hi k.symm
        simp [arrI, upd, hn, hi, hi2]
      · simp [arrI, hn, hi]
  simp [World.setCell, Array.getElem?_modify, h, e]
theorem arrI_congr (n : Nat) (v u : Nat → Int) (h : ∀ s, s < n → v s = u s) : arrI n v = arrI n u := by
  unfold arrI
  congr 1
  apply List.map_congr_left
  intro s hs
  rw [h s (List.mem_range.1 hs)]

theorem blk_lt {w : World} {B : Nat} {o : Obj} (h : w.heap[B]? = some o) : B < w.heap.size := by
  rcases Nat.lt_or_ge B w.heap.size with g | g
  · exact g
  · rw [Array.getElem?_eq_none (by omega)] at h
    cases h
theorem info_int : (Try.prog.info? 3).map (fun i => (i.zero, i.size, i.bytes)) = some (some (.int .i64 0), 1, 8) := by kernel_rfl
theorem make_ints (n : Nat) (hn : n ≤ 1000) (w : World) :
    (Instr.makeSlice 22 (.int .i64 (n : Int)) (.int .i64 (n : Int))).run Try.prog w = .ok (.slice (some ⟨w.heap.size, 0, none⟩) n n) (w.alloc (.cells (arrI n (fun _ => 0)) 3)) := by
  obtain ⟨i0, hi, hz0, hz1, hz2⟩ := info_parts info_int
  have hr := run_make (P := Try.prog) w 22 3 i0 (.int .i64 0) Try.underlying22 hi hz0 .i64 .i64 (n : Int) (n : Int) (by omega) (by omega) (by rw [hz2]; omega) (by omega)
  rw [hr]
  have e : madeCells (Value.int .i64 0).cells ((n : Int).toNat * i0.size) = arrI n (fun _ => 0) := by
    rw [hz1]
    apply Array.ext_getElem?
    intro i
    by_cases hn : i < n
    · simp [madeCells, arrI, hn, Value.cells, Nat.mod_one]
    · simp [madeCells, arrI, hn]
  rw [e]
  simp

theorem set_keep {w : World} {B : Nat} {o : Obj} (h : w.heap[B]? = some o) {p : Addr} (hp : p.block ≠ B) (v : Value) : (w.setCell p v).heap[B]? = some o := by
  simp [World.setCell, Array.getElem?_modify, h, hp]
/-- inside a round: the scenarios that are done -/
def mix (a b : Nat → Int) (s : Nat) : Nat → Int := fun i => if i < s then a i else b i
theorem mix_upd (a b : Nat → Int) (s : Nat) : upd (mix a b s) s (a s) = mix a b (s + 1) := by
  funext i
  unfold upd mix
  by_cases h : i = s
  · subst h
    simp
  · rw [if_neg h]
    by_cases g : i < s
    · rw [if_pos g, if_pos (by omega)]
    · rw [if_neg g, if_neg (by omega)]

set_option maxRecDepth 100000 in
set_option maxHeartbeats 4000000 in
theorem losses_any (wa pa la : Option Addr) (nw wc np pc n lc : Nat) (W : Nat → Int) (P : Nat → PD) (T : Nat → ByteArray) (Q : Nat → Int) (w : World) (hF : Fit W nw P np T Q n) (hA : ProdsAt w pa np P) (hL : PosAt w la n T Q) :
    Calls Try.prog 36 #[.agg #[.slice wa nw wc, .slice pa np pc], .slice la n lc] w fun e w' => e = .returned (.slice (some ⟨w.heap.size + 1, 0, none⟩) nw nw) ∧
      w'.heap[w.heap.size + 1]? = some (.cells (arrI nw (lossUp P np T Q n)) 3 (0, 0)) ∧ Below w.heap.size w w' := by
  have hblk := blk_two w (.cells #[.slice wa nw wc, .slice pa np pc] 25) (.cells (arrI nw (fun _ => 0)) 3)
  have hbo : Below w.heap.size w ((w.alloc (.cells #[.slice wa nw wc, .slice pa np pc] 25)).alloc (.cells (arrI nw (fun _ => 0)) 3)) := ((Below.refl _ _).alloc (Nat.le_refl _) _).alloc (by simp) _
  have HF := Lib.hid hF
  have HA := Lib.hid hA
  have HL := Lib.hid hL
  have hnw : nw ≤ 50 := hF.g.w50
  have hnp : np ≤ 32 := hF.g.p32
  have hn32 : n ≤ 32 := hF.p.n32
  have hmk := make_ints nw (by omega)
  have HX := Lib.hid hblk
  have HB := Lib.hid hbo
  clear hF hA hL hblk hbo
  go_enter Try.func36, Try.ntmps36
  go_wp2_with fail
  generalize (w.alloc _).alloc _ = wo at HX HB ⊢
  clear hmk
  go_loopw [7, 8, 9, 10, 17, 30] (fun _ _ _ _ c _ wr => ∃ k : Nat, k ≤ n ∧ c = .int .i64 k ∧ Below w.heap.size w wr ∧ Hid (wr.heap[w.heap.size]? = some (.cells #[.slice wa nw wc, .slice pa np pc] 25 (0, 0))) ∧ Hid (wr.heap[w.heap.size + 1]? = some (.cells (arrI nw (lossUp P np T Q k)) 3 (0, 0)))) (fun _ _ _ _ c _ _ => n - (intOf c).toNat)
  case atStart => exact ⟨0, by omega, rfl, HB.out, Lib.hid HX.out.1, Lib.hid HX.out.2⟩
  case round =>
    clear HX HB
    obtain ⟨k, hk, rfl, hbw, HX, HM⟩ := hrel
    by_cases hlt : k < n
    · obtain ⟨b, off, rfl, q0, q1⟩ := (HL.out.below hbw) k hlt
      have x0 : wr.cell? ⟨w.heap.size, 0, none⟩ = some (.slice wa nw wc) := cell_of HX.out 0 _ rfl
      have x1 : wr.cell? ⟨w.heap.size, 1, none⟩ = some (.slice pa np pc) := cell_of HX.out 1 _ rfl
      have hws : w.heap.size < wr.heap.size := World.block_lt_of_cell? _ _ x1
      have HB2 := Lib.hid (hbw.alloc hbw.size (.cells #[.string (T k), .int .i64 (Q k)] 51))
      have HX2 := Lib.hid (blk_past wr (.cells #[.string (T k), .int .i64 (Q k)] 51) HX.out)
      have HM2 := Lib.hid (blk_past wr (.cells #[.string (T k), .int .i64 (Q k)] 51) HM.out)
      have HP2 := Lib.hid (blk_new wr (.cells #[.string (T k), .int .i64 (Q k)] 51))
      have hi := idx_spec (HF.out.has k hlt)
      have HI := Lib.hid hi
      clear hi
      go_wp2_with fail
      refine (product_yes wa pa nw wc np pc P (T k) (idx P np (T k)) _ (by omega) (HA.out.below HB2.out) HF.out.g.sorted HI.out.1 HI.out.2).mono ?_
      rintro e w3 ⟨rfl, hb3⟩
      have c3 := bt HB2.out hb3 (by simp)
      have HX3 := Lib.hid (blk_keep HX2.out hb3)
      have HM3 := Lib.hid (blk_keep HM2.out hb3)
      have HP3 := Lib.hid (blk_keep HP2.out hb3)
      have hb1 := blk_lt HM.out
      have hb2 := blk_lt HP3.out
      clear HX HM HX2 HM2 HP2 HB2 hb3 x0 x1 q0 q1
      go_wp2_with fail
      have HX4 := Lib.hid (blk_past w3 (.cells #[.string (T k), .slice (P (idx P np (T k))).a (P (idx P np (T k))).len (P (idx P np (T k))).cap, .int .i64 (P (idx P np (T k))).fee] 54) HX3.out)
      have HM4 := Lib.hid (blk_past w3 (.cells #[.string (T k), .slice (P (idx P np (T k))).a (P (idx P np (T k))).len (P (idx P np (T k))).cap, .int .i64 (P (idx P np (T k))).fee] 54) HM3.out)
      have HP4 := Lib.hid (blk_past w3 (.cells #[.string (T k), .slice (P (idx P np (T k))).a (P (idx P np (T k))).len (P (idx P np (T k))).cap, .int .i64 (P (idx P np (T k))).fee] 54) HP3.out)
      have HQ4 := Lib.hid (blk_new w3 (.cells #[.string (T k), .slice (P (idx P np (T k))).a (P (idx P np (T k))).len (P (idx P np (T k))).cap, .int .i64 (P (idx P np (T k))).fee] 54))
      have HB4 := Lib.hid (c3.alloc c3.size (.cells #[.string (T k), .slice (P (idx P np (T k))).a (P (idx P np (T k))).len (P (idx P np (T k))).cap, .int .i64 (P (idx P np (T k))).fee] 54))
      have hlen : (P (idx P np (T k))).len = nw := HF.out.g.len _ HI.out.1
      clear HX3 HM3 HP3
      generalize w3.alloc _ = w4 at HX4 HM4 HP4 HQ4 HB4 ⊢
      generalize hG : wr.heap.size = G at HP4 hb1 hb2 ⊢
      generalize hH : w3.heap.size = H at HQ4 hb2 ⊢
      rw [hlen] at HQ4
      rw [hlen]
      go_loopw [10, 30, 31, 32, 33, 34, 35, 36, 37, 38, 39, 40, 41, 42, 43, 44, 45, 46, 47] (fun _ c _ _ _ _ _ _ _ _ _ _ _ _ _ _ _ _ _ ww => ∃ s : Nat, s ≤ nw ∧ c = .int .i64 s ∧ Below w.heap.size w ww ∧
        Hid (ww.heap[w.heap.size]? = some (.cells #[.slice wa nw wc, .slice pa np pc] 25 (0, 0))) ∧
        Hid (ww.heap[w.heap.size + 1]? = some (.cells (arrI nw (mix (lossUp P np T Q (k + 1)) (lossUp P np T Q k) s)) 3 (0, 0))) ∧
        Hid (ww.heap[G]? = some (.cells #[.string (T k), .int .i64 (Q k)] 51 (0, 0))) ∧
        Hid (ww.heap[H]? = some (.cells #[.string (T k), .slice (P (idx P np (T k))).a nw (P (idx P np (T k))).cap, .int .i64 (P (idx P np (T k))).fee] 54 (0, 0))))
        (fun _ c _ _ _ _ _ _ _ _ _ _ _ _ _ _ _ _ _ _ => nw - (intOf c).toNat)
      case atStart => 
        refine ⟨0, by omega, rfl, HB4.out, HX4, ?_, HP4, HQ4⟩
        have e : mix (lossUp P np T Q (k + 1)) (lossUp P np T Q k) 0 = lossUp P np T Q k := by funext i; simp [mix]
        rw [e]
        exact HM4
      case round =>
        clear HX4 HM4 HP4 HQ4 HB4
        rename_i wv
        obtain ⟨s, hs, rfl, hbw4, HX, HM, HP, HQ⟩ := hrel
        by_cases hlt2 : s < nw
        · have o1 : wr.cell? ⟨w.heap.size + 1, s, none⟩ = some (.int .i64 (lossUp P np T Q k s)) := by
            have := cell_of HM.out s _ (arrI_get nw _ s hlt2)
            simpa [mix] using this
          have o2 := frozen_of HM.out s
          have p1 := cell_of HP.out 1 _ rfl
          have q1 := cell_of HQ.out 1 _ rfl
          obtain ⟨b1, off1, ha, _, _, _, hI4⟩ := (HA.out.below hbw4) _ HI.out.1
          rw [hlen] at hI4
          obtain ⟨b2, off2, hm, m1⟩ := hI4 s hlt2
          have HN := Lib.hid (show lossUp P np T Q (k + 1) s = lossUp P np T Q k s - Q k * (P (idx P np (T k))).mv s from rfl)
          have HA2 := Lib.hid (fun x : Int => arrI_set HM.out s x)
          have h1 := (HF.out.mv k s hlt hlt2).2
          have h2 := HF.out.loss k s (by omega) hlt2
          unfold mvOf at h1
          rw [hm] at q1
          clear ha hI4
          generalize (P (idx P np (T k))).mv s = m at h1 m1 HN
          generalize lossUp P np T Q k s = L at h2 o1 HN
          have n1 : IntKind.i64.wrap (Q k * m) = Q k * m := IntWalk.i64_in _ (by omega)
          have n2 : IntKind.i64.wrap (L - Q k * m) = L - Q k * m := IntWalk.i64_in _ (by omega)
          have k0 : (0 : Int) ≤ s := by omega
          have k1 : (s : Int) < nw := by omega
          go_wp2_with fail
          go_region
          clear n1 n2 o1 o2 p1 q1 m1
          have HM2 : Hid ((wr.setCell { block := w.heap.size + 1, off := s } (Value.int IntKind.i64 (L - Q k * m))).drew.heap[w.heap.size + 1]? = some (.cells (arrI nw (mix (lossUp P np T Q (k + 1)) (lossUp P np T Q k) (s + 1))) 3 (0, 0))) := by
            have e := HA2.out (L - Q k * m)
            rw [← HN.out, mix_upd] at e
            rw [← HN.out]
            exact e
          have HX2 := Lib.hid (set_keep HX.out (p := ⟨w.heap.size + 1, s, none⟩) (by simp) (.int .i64 (L - Q k * m)))
          have HP2 := Lib.hid (set_keep HP.out (p := ⟨w.heap.size + 1, s, none⟩) (by simp; omega) (.int .i64 (L - Q k * m)))
          have HQ2 := Lib.hid (set_keep HQ.out (p := ⟨w.heap.size + 1, s, none⟩) (by simp; omega) (.int .i64 (L - Q k * m)))
          clear HX HP HQ HM HN HA2
          go_wp2
          go_roundw
          case rel => exact ⟨s + 1, by omega, by go_num, (hbw4.setCell (p := ⟨w.heap.size + 1, s, none⟩) (by simp) _).drew, HX2, HM2, HP2, HQ2⟩
          case measure => simp [intOf]; omega
        · obtain rfl : s = nw := by omega
          have HM : Hid (wr.heap[w.heap.size + 1]? = some (.cells (arrI s (lossUp P np T Q (k + 1))) 3 (0, 0))) := by
            have := arrI_congr s (mix (lossUp P np T Q (k + 1)) (lossUp P np T Q k) s) (lossUp P np T Q (k + 1)) (fun i hi => by simp [mix, hi])
            unfold Hid
            rw [← this]
            exact HM.out
          go_wp2
          go_roundw
          case rel => exact ⟨k + 1, by omega, by go_num, hbw4, HX, HM⟩
          case measure => simp [intOf]; omega
    · obtain rfl : k = n := by omega
      go_wp2
      go_ret
      exact ⟨rfl, HM.out, hbw⟩
end Go.Proofs.Ytmljjofpbonplaa.Mg
