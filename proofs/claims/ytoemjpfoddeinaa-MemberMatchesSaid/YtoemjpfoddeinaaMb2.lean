/-
  Member: the walks of ordered; the order of names as a list.
-/
import Derived.Test.YtoemjpfoddeinaaMb1
namespace Go.Proofs.Ytoemjpfoddeinaa.Mb
open Go.RowKit Go.Proofs.Ytoemjpfoddeinaa Go.Proofs.Ytoemjpfoddeinaa.Ls Go.Proofs.Ytoemjpfoddeinaa.Kb
open Go.Proofs.Ytoemjpfoddeinaa.Nm hiding ret_bool ret_int

theorem srt_cons2 (x y : ByteArray) (l : List ByteArray) : srt (x :: y :: l) = (lt x y && srt (y :: l)) := rfl
def gs (l : List ByteArray) (i : Nat) : ByteArray := l.getD i ⟨#[]⟩
theorem gs_succ (x : ByteArray) (l : List ByteArray) (i : Nat) : gs (x :: l) (i + 1) = gs l i := by simp [gs]
theorem srt_iff (l : List ByteArray) : srt l = true ↔ Sorted l.length (gs l) := by
  induction l with
  | nil => exact ⟨fun _ i h0 h => absurd h (Nat.not_lt_zero _), fun _ => rfl⟩
  | cons x l ih =>
    cases l with
    | nil => exact ⟨fun _ i h0 h => by simp at h; omega, fun _ => rfl⟩
    | cons y l =>
      rw [srt_cons2, Bool.and_eq_true, ih]
      constructor
      · rintro ⟨h1, h2⟩ i h0 hi
        rcases i with _ | _ | i
        · omega
        · exact h1
        · have := h2 (i + 1) (by omega) (by simp at hi ⊢; omega)
          rw [gs_succ, show i + 1 + 1 - 1 = i + 1 from rfl, gs_succ]
          exact this
      · intro h
        refine ⟨h 1 (by omega) (by simp), fun i h0 hi => ?_⟩
        have := h (i + 1) (by omega) (by simp at hi ⊢; omega)
        rw [gs_succ, show i + 1 - 1 = i - 1 + 1 by omega, gs_succ] at this
        exact this
theorem gs_m (xs : List P) (i : Nat) : gs (xs.map fun x => x.1.nm) i = (gp xs i).1.nm := by
  unfold gs gp
  rw [List.getD_eq_getElem?_getD, List.getD_eq_getElem?_getD, List.getElem?_map]
  cases xs[i]? <;> rfl
theorem gs_a (xs : List Ac) (i : Nat) : gs (xs.map Ac.nm) i = (ga xs i).nm := by
  unfold gs ga
  rw [List.getD_eq_getElem?_getD, List.getD_eq_getElem?_getD, List.getElem?_map]
  cases xs[i]? <;> rfl
theorem srt_no {l : List ByteArray} {i : Nat} (h0 : 0 < i) (hi : i < l.length) (h : lt (gs l (i - 1)) (gs l i) = false) : srt l = false := by
  cases e : srt l
  · rfl
  · have := (srt_iff l).1 e i h0 hi
    rw [h] at this
    cases this

set_option maxRecDepth 100000 in
set_option maxHeartbeats 4000000 in
theorem ordered_m (a : Option Addr) (cap : Nat) (xs : List P) (w : World) (hn : xs.length ≤ 1000) (hA : AtL w 5 mec a xs) :
    Calls Try.prog 60 #[.slice a xs.length cap, .func (.func 41) #[] #[]] w fun e w' => e = .returned (.bool (srt (xs.map (fun x => x.1.nm)))) ∧ Below w.heap.size w w' := by
  have HA := Lib.hid hA
  clear hA
  obtain ⟨R, hR⟩ : ∃ R, R = srt (xs.map (fun x => x.1.nm)) := ⟨_, rfl⟩
  rw [← hR]
  have HNO := Lib.hid (show ∀ i, 0 < i → i < xs.length → lt (gp xs (i - 1)).1.nm (gp xs i).1.nm = false → R = false from fun i h0 hi h => by
    rw [hR]
    exact srt_no h0 (by rw [List.length_map]; exact hi) (by rw [gs_m, gs_m]; exact h))
  have HYES := Lib.hid (show (∀ i, 0 < i → i < xs.length → lt (gp xs (i - 1)).1.nm (gp xs i).1.nm = true) → R = true from fun h => by
    rw [hR]
    refine (srt_iff _).2 fun i h0 hi => ?_
    rw [gs_m, gs_m]
    exact h i h0 (by rw [List.length_map] at hi; exact hi))
  clear hR
  go_enter Try.func60, Try.ntmps60
  go_wp2_with fail
  go_loopw [5] (fun x wr => ∃ i : Nat, 1 ≤ i ∧ (i ≤ xs.length ∨ i = 1) ∧ x = .int .i64 i ∧ Hid (∀ k, 0 < k → k < i → k < xs.length → lt (gp xs (k - 1)).1.nm (gp xs k).1.nm = true) ∧ Below w.heap.size w wr) (fun x _ => xs.length - (intOf x).toNat)
  case atStart => exact ⟨1, by omega, by omega, rfl, fun k h0 h1 _ => by omega, Below.refl _ _⟩
  case round =>
    obtain ⟨i, hi1, hi2, rfl, HI, hbw⟩ := hrel
    by_cases hlt : i < xs.length
    · obtain ⟨b, off, rfl, _⟩ := at_p (HA.out.below hbw) i hlt
      have HB := Lib.hid (show ∀ wx, Below wr.heap.size wr wx → (wx.cell? ⟨b, off + (i - 1) * 5, none⟩ = some (.string (gp xs (i - 1)).1.nm) ∧ wx.cell? ⟨b, off + (i - 1) * 5 + 1, none⟩ = some (.int .u8 (gp xs (i - 1)).1.ro) ∧ wx.cell? ⟨b, off + (i - 1) * 5 + 2, none⟩ = some (.bool (gp xs (i - 1)).1.su) ∧ wx.cell? ⟨b, off + (i - 1) * 5 + 3, none⟩ = some (.int .i64 (gp xs (i - 1)).1.lim) ∧ wx.cell? ⟨b, off + (i - 1) * 5 + 4, none⟩ = some (.slice (gp xs (i - 1)).2.1 (gp xs (i - 1)).1.ac.length (gp xs (i - 1)).2.2)) ∧ (wx.cell? ⟨b, off + i * 5, none⟩ = some (.string (gp xs i).1.nm) ∧ wx.cell? ⟨b, off + i * 5 + 1, none⟩ = some (.int .u8 (gp xs i).1.ro) ∧ wx.cell? ⟨b, off + i * 5 + 2, none⟩ = some (.bool (gp xs i).1.su) ∧ wx.cell? ⟨b, off + i * 5 + 3, none⟩ = some (.int .i64 (gp xs i).1.lim) ∧ wx.cell? ⟨b, off + i * 5 + 4, none⟩ = some (.slice (gp xs i).2.1 (gp xs i).1.ac.length (gp xs i).2.2)) from fun wx h => ⟨at_p' (HA.out.below (bt hbw h (Nat.le_refl _))) (i - 1) (by omega), at_p' (HA.out.below (bt hbw h (Nat.le_refl _))) i hlt⟩)
      have k0 : Below wr.heap.size wr wr := Below.refl _ _
      have kd := k0.drew
      have hbw2 := Lib.hid hbw
      have HNi := Lib.hid (HNO.out i (by omega) hlt)
      have HIi := Lib.hid (show lt (gp xs (i - 1)).1.nm (gp xs i).1.nm = true → ∀ k, 0 < k → k < i + 1 → k < xs.length → lt (gp xs (k - 1)).1.nm (gp xs k).1.nm = true from fun h k h0 h1 h2 => by
        rcases Nat.lt_or_ge k i with g | g
        · exact HI.out k h0 g h2
        · obtain rfl : k = i := by omega
          exact h)
      have hw : IntKind.i64.wrap ((i : Int) - 1) = (i : Int) - 1 := IntWalk.i64_in _ (by omega)
      have hq0 : (0 : Int) ≤ (i : Int) - 1 := by omega
      have hq1 : (i : Int) - 1 < (xs.length : Int) := by omega
      have hq2 : ((i : Int) - 1).toNat = i - 1 := by omega
      have hq3 : (1 : Int) ≤ (i : Int) := by omega
      have hq4 : (i : Int) < (xs.length : Int) := by omega
      have hq5 : (i : Int) ≤ (xs.length : Int) := by omega
      have hq6 : (0 : Int) ≤ (i : Int) := by omega
      clear hbw HI HNO HYES HA
      obtain ⟨bl, hbl⟩ : ∃ bl, bl = Op.bytesLess (gp xs (i - 1)).1.nm.toList (gp xs i).1.nm.toList := ⟨_, rfl⟩
      have HNi2 := Lib.hid (show bl = false → R = false from fun h => HNi.out (by unfold lt; rw [← hbl]; exact h))
      have HIi2 := Lib.hid (show bl = true → ∀ k, 0 < k → k < i + 1 → k < xs.length → lt (gp xs (k - 1)).1.nm (gp xs k).1.nm = true from fun h => HIi.out (by unfold lt; rw [← hbl]; exact h))
      clear HNi HIi
      generalize hx : gp xs (i - 1) = x at HB hbl
      generalize hy : gp xs i = y at HB hbl
      replace hbl := hbl.symm
      clear hx hy
      go_wp2_with fail
      go_upto_region 4 with fail
      go_cut [25] from 12 to 25 (fun q wn => q = .bool (!bl) ∧ Hid (Below wr.heap.size wr wn))
      case first =>
        go_region_held3 (fun wx => (wx.cell? ⟨b, off + (i - 1) * 5, none⟩ = some (.string x.1.nm) ∧ wx.cell? ⟨b, off + (i - 1) * 5 + 1, none⟩ = some (.int .u8 x.1.ro) ∧ wx.cell? ⟨b, off + (i - 1) * 5 + 2, none⟩ = some (.bool x.1.su) ∧ wx.cell? ⟨b, off + (i - 1) * 5 + 3, none⟩ = some (.int .i64 x.1.lim) ∧ wx.cell? ⟨b, off + (i - 1) * 5 + 4, none⟩ = some (.slice x.2.1 x.1.ac.length x.2.2)) ∧ (wx.cell? ⟨b, off + i * 5, none⟩ = some (.string y.1.nm) ∧ wx.cell? ⟨b, off + i * 5 + 1, none⟩ = some (.int .u8 y.1.ro) ∧ wx.cell? ⟨b, off + i * 5 + 2, none⟩ = some (.bool y.1.su) ∧ wx.cell? ⟨b, off + i * 5 + 3, none⟩ = some (.int .i64 y.1.lim) ∧ wx.cell? ⟨b, off + i * 5 + 4, none⟩ = some (.slice y.2.1 y.1.ac.length y.2.2)))
          (first | exact HB.out _ (by assumption) | exact HB.out _ (Below.drew (by assumption)) | go_keep)
          (first
            | (go_at_call 41; refine (mname_any x _).mono ?_; rintro e w5 ⟨rfl, hb5⟩; have k5 : Below wr.heap.size wr w5 := bt (by first | assumption | exact Below.drew (by assumption)) hb5 (Nat.le_refl _))
            | (go_at_call 41; refine (mname_any y _).mono ?_; rintro e w5 ⟨rfl, hb5⟩; have k5 : Below wr.heap.size wr w5 := bt (by first | assumption | exact Below.drew (by assumption)) hb5 (Nat.le_refl _)))
        all_goals
          go_wp2
          go_meet
          case rel => exact ⟨rfl, Lib.hid (by assumption)⟩
      case rest =>
        obtain ⟨rfl, HQ⟩ := hcut
        have hbn := bt hbw2.out HQ.out (Nat.le_refl _)
        clear hbl
        cases bl
        · have HR := Lib.hid (HNi2.out rfl)
          go_wp2
          go_ret
          exact ⟨by rw [HR.out]; rfl, hbn⟩
        · go_wp2
          go_roundw
          case rel => exact ⟨i + 1, by omega, by omega, by go_num, HIi2.out rfl, hbn⟩
          case measure => simp [intOf]; omega
    · have HR := Lib.hid (HYES.out fun k h0 h => HI.out k h0 (by omega) h)
      go_wp2
      go_ret
      exact ⟨by rw [HR.out]; rfl, hbw⟩

set_option maxRecDepth 100000 in
set_option maxHeartbeats 4000000 in
theorem ordered_a (a : Option Addr) (cap : Nat) (xs : List Ac) (w : World) (hn : xs.length ≤ 1000) (hA : AtL w 4 acc a xs) :
    Calls Try.prog 75 #[.slice a xs.length cap, .func (.func 51) #[] #[]] w fun e w' => e = .returned (.bool (srt (xs.map Ac.nm))) ∧ Below w.heap.size w w' := by
  have HA := Lib.hid hA
  clear hA
  obtain ⟨R, hR⟩ : ∃ R, R = srt (xs.map Ac.nm) := ⟨_, rfl⟩
  rw [← hR]
  have HNO := Lib.hid (show ∀ i, 0 < i → i < xs.length → lt (ga xs (i - 1)).nm (ga xs i).nm = false → R = false from fun i h0 hi h => by
    rw [hR]
    exact srt_no h0 (by rw [List.length_map]; exact hi) (by rw [gs_a, gs_a]; exact h))
  have HYES := Lib.hid (show (∀ i, 0 < i → i < xs.length → lt (ga xs (i - 1)).nm (ga xs i).nm = true) → R = true from fun h => by
    rw [hR]
    refine (srt_iff _).2 fun i h0 hi => ?_
    rw [gs_a, gs_a]
    exact h i h0 (by rw [List.length_map] at hi; exact hi))
  clear hR
  go_enter Try.func75, Try.ntmps75
  go_wp2_with fail
  go_loopw [5] (fun x wr => ∃ i : Nat, 1 ≤ i ∧ (i ≤ xs.length ∨ i = 1) ∧ x = .int .i64 i ∧ Hid (∀ k, 0 < k → k < i → k < xs.length → lt (ga xs (k - 1)).nm (ga xs k).nm = true) ∧ Below w.heap.size w wr) (fun x _ => xs.length - (intOf x).toNat)
  case atStart => exact ⟨1, by omega, by omega, rfl, fun k h0 h1 _ => by omega, Below.refl _ _⟩
  case round =>
    obtain ⟨i, hi1, hi2, rfl, HI, hbw⟩ := hrel
    by_cases hlt : i < xs.length
    · obtain ⟨b, off, rfl, _⟩ := at_a (HA.out.below hbw) i hlt
      have HB := Lib.hid (show ∀ wx, Below wr.heap.size wr wx → (wx.cell? ⟨b, off + (i - 1) * 4, none⟩ = some (.string (ga xs (i - 1)).nm) ∧ wx.cell? ⟨b, off + (i - 1) * 4 + 1, none⟩ = some (.bool (ga xs (i - 1)).cl) ∧ wx.cell? ⟨b, off + (i - 1) * 4 + 2, none⟩ = some (.int .i64 (ga xs (i - 1)).lim) ∧ wx.cell? ⟨b, off + (i - 1) * 4 + 3, none⟩ = some (.int .i64 (ga xs (i - 1)).us)) ∧ (wx.cell? ⟨b, off + i * 4, none⟩ = some (.string (ga xs i).nm) ∧ wx.cell? ⟨b, off + i * 4 + 1, none⟩ = some (.bool (ga xs i).cl) ∧ wx.cell? ⟨b, off + i * 4 + 2, none⟩ = some (.int .i64 (ga xs i).lim) ∧ wx.cell? ⟨b, off + i * 4 + 3, none⟩ = some (.int .i64 (ga xs i).us)) from fun wx h => ⟨at_a' (HA.out.below (bt hbw h (Nat.le_refl _))) (i - 1) (by omega), at_a' (HA.out.below (bt hbw h (Nat.le_refl _))) i hlt⟩)
      have k0 : Below wr.heap.size wr wr := Below.refl _ _
      have kd := k0.drew
      have hbw2 := Lib.hid hbw
      have HNi := Lib.hid (HNO.out i (by omega) hlt)
      have HIi := Lib.hid (show lt (ga xs (i - 1)).nm (ga xs i).nm = true → ∀ k, 0 < k → k < i + 1 → k < xs.length → lt (ga xs (k - 1)).nm (ga xs k).nm = true from fun h k h0 h1 h2 => by
        rcases Nat.lt_or_ge k i with g | g
        · exact HI.out k h0 g h2
        · obtain rfl : k = i := by omega
          exact h)
      have hw : IntKind.i64.wrap ((i : Int) - 1) = (i : Int) - 1 := IntWalk.i64_in _ (by omega)
      have hq0 : (0 : Int) ≤ (i : Int) - 1 := by omega
      have hq1 : (i : Int) - 1 < (xs.length : Int) := by omega
      have hq2 : ((i : Int) - 1).toNat = i - 1 := by omega
      have hq3 : (1 : Int) ≤ (i : Int) := by omega
      have hq4 : (i : Int) < (xs.length : Int) := by omega
      have hq5 : (i : Int) ≤ (xs.length : Int) := by omega
      have hq6 : (0 : Int) ≤ (i : Int) := by omega
      clear hbw HI HNO HYES HA
      obtain ⟨bl, hbl⟩ : ∃ bl, bl = Op.bytesLess (ga xs (i - 1)).nm.toList (ga xs i).nm.toList := ⟨_, rfl⟩
      have HNi2 := Lib.hid (show bl = false → R = false from fun h => HNi.out (by unfold lt; rw [← hbl]; exact h))
      have HIi2 := Lib.hid (show bl = true → ∀ k, 0 < k → k < i + 1 → k < xs.length → lt (ga xs (k - 1)).nm (ga xs k).nm = true from fun h => HIi.out (by unfold lt; rw [← hbl]; exact h))
      clear HNi HIi
      generalize hx : ga xs (i - 1) = x at HB hbl
      generalize hy : ga xs i = y at HB hbl
      replace hbl := hbl.symm
      clear hx hy
      go_wp2_with fail
      go_upto_region 4 with fail
      go_cut [25] from 12 to 25 (fun q wn => q = .bool (!bl) ∧ Hid (Below wr.heap.size wr wn))
      case first =>
        go_region_held3 (fun wx => (wx.cell? ⟨b, off + (i - 1) * 4, none⟩ = some (.string x.nm) ∧ wx.cell? ⟨b, off + (i - 1) * 4 + 1, none⟩ = some (.bool x.cl) ∧ wx.cell? ⟨b, off + (i - 1) * 4 + 2, none⟩ = some (.int .i64 x.lim) ∧ wx.cell? ⟨b, off + (i - 1) * 4 + 3, none⟩ = some (.int .i64 x.us)) ∧ (wx.cell? ⟨b, off + i * 4, none⟩ = some (.string y.nm) ∧ wx.cell? ⟨b, off + i * 4 + 1, none⟩ = some (.bool y.cl) ∧ wx.cell? ⟨b, off + i * 4 + 2, none⟩ = some (.int .i64 y.lim) ∧ wx.cell? ⟨b, off + i * 4 + 3, none⟩ = some (.int .i64 y.us)))
          (first | exact HB.out _ (by assumption) | exact HB.out _ (Below.drew (by assumption)) | go_keep)
          (first
            | (go_at_call 51; refine (aname_any x _).mono ?_; rintro e w5 ⟨rfl, hb5⟩; have k5 : Below wr.heap.size wr w5 := bt (by first | assumption | exact Below.drew (by assumption)) hb5 (Nat.le_refl _))
            | (go_at_call 51; refine (aname_any y _).mono ?_; rintro e w5 ⟨rfl, hb5⟩; have k5 : Below wr.heap.size wr w5 := bt (by first | assumption | exact Below.drew (by assumption)) hb5 (Nat.le_refl _)))
        all_goals
          go_wp2
          go_meet
          case rel => exact ⟨rfl, Lib.hid (by assumption)⟩
      case rest =>
        obtain ⟨rfl, HQ⟩ := hcut
        have hbn := bt hbw2.out HQ.out (Nat.le_refl _)
        clear hbl
        cases bl
        · have HR := Lib.hid (HNi2.out rfl)
          go_wp2
          go_ret
          exact ⟨by rw [HR.out]; rfl, hbn⟩
        · go_wp2
          go_roundw
          case rel => exact ⟨i + 1, by omega, by omega, by go_num, HIi2.out rfl, hbn⟩
          case measure => simp [intOf]; omega
    · have HR := Lib.hid (HYES.out fun k h0 h => HI.out k h0 (by omega) h)
      go_wp2
      go_ret
      exact ⟨by rw [HR.out]; rfl, hbw⟩

end Go.Proofs.Ytoemjpfoddeinaa.Mb
