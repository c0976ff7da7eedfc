/-
  Member: the walk of Check.
-/
import Derived.Test.YtoemjpfoddeinaaMb3
namespace Go.Proofs.Ytoemjpfoddeinaa.Mb
open Go.RowKit Go.Proofs.Ytoemjpfoddeinaa Go.Proofs.Ytoemjpfoddeinaa.Ls Go.Proofs.Ytoemjpfoddeinaa.Kb
open Go.Proofs.Ytoemjpfoddeinaa.Nm hiding ret_bool ret_int

def fst (xs : List P) : List Me := xs.map Prod.fst
theorem fst_len (xs : List P) : (fst xs).length = xs.length := by simp [fst]
theorem fst_nm (xs : List P) : (fst xs).map Me.nm = xs.map fun x => x.1.nm := by simp [fst, Function.comp_def]
theorem gm_fst (xs : List P) (i : Nat) : gm (fst xs) i = (gp xs i).1 := gm_map xs i
theorem all_val {xs : List P} (h : ∀ i, i < xs.length → val (gp xs i).1 = true) : (fst xs).all val = true := by
  rw [List.all_eq_true]
  intro x hx
  obtain ⟨i, hi, rfl⟩ := List.mem_iff_getElem.1 hx
  rw [fst_len] at hi
  have := h i hi
  unfold gp at this
  rw [List.getD_eq_getElem?_getD, List.getElem?_eq_getElem hi] at this
  simpa [fst] using this
theorem not_all_val {xs : List P} {i : Nat} (hi : i < xs.length) (h : val (gp xs i).1 = false) : (fst xs).all val = false := by
  cases e : (fst xs).all val
  · rfl
  · rw [List.all_eq_true] at e
    rw [e _ (List.mem_map.2 ⟨_, gp_mem xs i hi, rfl⟩)] at h
    cases h
theorem chk_of (xs : List P) : chk (fst xs) = if decide (xs.length ≤ 64) && srt (xs.map fun x => x.1.nm) && (fst xs).all val then 0 else 8 := by
  unfold chk
  rw [fst_len, fst_nm]

set_option maxRecDepth 100000 in
set_option maxHeartbeats 4000000 in
theorem check_any (a : Option Addr) (c : Nat) (xs : List P) (w : World) (hn : xs.length ≤ 1000) (hZ : ∀ x ∈ xs, OkM x.1) (hA : AtM w a xs) :
    Calls Try.prog 22 #[.agg #[.slice a xs.length c]] w fun e w' => e = .returned (.int .i64 (chk (fst xs))) ∧ Below w.heap.size w w' := by
  have HA := Lib.hid hA
  have HZ := Lib.hid hZ
  have HV := Lib.hid (chk_of xs)
  generalize chk (fst xs) = V at HV ⊢
  have HM := Lib.hid (fun wx (h : AtM wx a xs) => ordered_m a c xs wx hn h.ms)
  generalize hR : srt (xs.map fun x => x.1.nm) = R at HV HM
  clear hR hA hZ
  have hbo : Below w.heap.size w (w.alloc (.cells #[.slice a xs.length c] 24)) := (Below.refl _ _).alloc (Nat.le_refl _) _
  have HX := Lib.hid (blk_new w (.cells #[.slice a xs.length c] 24))
  by_cases h1 : 64 < xs.length
  case pos =>
    have HVF := Lib.hid (show V = 8 by rw [HV.out, decide_eq_false (by omega)]; rfl)
    have h1' : (64 : Int) < xs.length := by omega
    go_enter Try.func22, Try.ntmps22
    go_wp2_with fail
    go_ret
    exact ⟨by rw [HVF.out]; rfl, hbo⟩
  have h1' : ¬ (64 : Int) < xs.length := by omega
  have HV1 := Lib.hid (show V = if R && (fst xs).all val then 0 else 8 by rw [HV.out, decide_eq_true (by omega)]; rfl)
  clear HV h1
  go_enter Try.func22, Try.ntmps22
  go_wp2_with fail
  generalize w.alloc _ = wo at hbo HX ⊢
  refine (HM.out wo (HA.out.below hbo)).mono ?_
  rintro e w2 ⟨rfl, hb2⟩
  have hx2 := blk_keep HX.out hb2
  have x0 := cell_of hx2 0 _ rfl
  have c2 := bt hbo hb2 (Nat.le_refl _)
  clear hx2 hb2 hbo HX HM
  cases R
  · have HVF := Lib.hid (show V = 8 by rw [HV1.out]; rfl)
    go_wp2_with fail
    go_ret
    exact ⟨by rw [HVF.out]; rfl, c2⟩
  · have HV2 := Lib.hid (show V = if (fst xs).all val then 0 else 8 by rw [HV1.out]; rfl)
    clear HV1
    go_wp2_with fail
    go_loopw [4, 18] (fun _ i wr => ∃ k : Nat, k ≤ xs.length ∧ i = .int .i64 k ∧ Hid (∀ i, i < k → val (gp xs i).1 = true) ∧ Below w.heap.size w wr) (fun _ i _ => xs.length - (intOf i).toNat)
    case atStart => exact ⟨0, by omega, rfl, fun i hi => by omega, c2⟩
    case round =>
      clear x0 c2
      obtain ⟨k, hk, rfl, HG, hbw⟩ := hrel
      by_cases hlt : k < xs.length
      · obtain ⟨b, off, rfl, q0, q1, q2, q3, q4⟩ := at_p (HA.out.below hbw).ms k hlt
        have HNO := Lib.hid (show val (gp xs k).1 = false → V = 8 from fun h => by rw [HV2.out, not_all_val hlt h]; rfl)
        have HGS := Lib.hid (show val (gp xs k).1 = true → ∀ i, i < k + 1 → val (gp xs i).1 = true from fun h i hi => by
          rcases Nat.lt_or_ge i k with g | g
          · exact HG.out i g
          · obtain rfl : i = k := by omega
            exact h)
        have HVA := Lib.hid (show ∀ wx, Below w.heap.size w wx → _ from fun wx h => valid_any (gp xs k) wx (HZ.out _ (gp_mem xs k hlt)) ((HA.out.below h).ac _ (gp_mem xs k hlt)))
        clear HG HV2
        generalize gp xs k = x at *
        have hbz : Below w.heap.size w (wr.alloc (.cells #[.string x.1.nm, .int .u8 x.1.ro, .bool x.1.su, .int .i64 x.1.lim, .slice x.2.1 x.1.ac.length x.2.2] 30)) := hbw.alloc hbw.size _
        go_wp2_with fail
        refine (HVA.out _ hbz).mono ?_
        rintro e w3 ⟨rfl, hb3⟩
        have c3 := bt hbz hb3 (Nat.le_refl _)
        generalize val x.1 = v at *
        clear hbz hb3 hbw
        cases v
        · have HVF := Lib.hid (HNO.out rfl)
          go_wp2_with fail
          go_ret
          exact ⟨by rw [HVF.out]; rfl, c3⟩
        · have HG2 := Lib.hid (HGS.out rfl)
          clear HGS HNO HVA
          go_wp2_with fail
          go_roundw
          case rel => exact ⟨k + 1, by omega, by go_num, HG2.out, c3⟩
          case measure => simp [intOf]; omega
      · have HVF := Lib.hid (show V = 0 by rw [HV2.out, all_val fun i hi => HG.out i (by omega)]; rfl)
        go_wp2_with fail
        go_ret
        exact ⟨by rw [HVF.out]; rfl, hbw⟩
end Go.Proofs.Ytoemjpfoddeinaa.Mb
