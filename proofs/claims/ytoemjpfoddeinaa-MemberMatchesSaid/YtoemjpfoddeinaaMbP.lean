/-
  Member: the walks of Find of the program (with IndexFunc) and of New.
-/
import Derived.Test.YtoemjpfoddeinaaMbC
namespace Go.Proofs.Ytoemjpfoddeinaa.Mb
open Go.RowKit Go.Proofs.Ytoemjpfoddeinaa Go.Proofs.Ytoemjpfoddeinaa.Ls Go.Proofs.Ytoemjpfoddeinaa.Kb
open Go.Proofs.Ytoemjpfoddeinaa.Nm hiding ret_bool ret_int

/-- the member with a name, or nothing -/
def fdM (ms : List Me) (t : ByteArray) : Me × Bool := match ms.find? (fun m => decide (m.nm = t)) with
  | some m => (m, true)
  | none => (me0, false)
theorem fd_yes {xs : List P} {t : ByteArray} {I : Nat} (hI : I < xs.length) (h : (gp xs I).1.nm = t) (hno : ∀ j, j < I → (gp xs j).1.nm ≠ t) : fdM (fst xs) t = ((gp xs I).1, true) := by
  induction xs generalizing I with
  | nil => simp at hI
  | cons x xs ih =>
    cases I with
    | zero =>
      have h : x.1.nm = t := h
      show (match (List.find? (fun m : Me => decide (m.nm = t)) (x.1 :: fst xs)) with | some m => (m, true) | none => (me0, false)) = _
      rw [List.find?_cons, decide_eq_true h]
      rfl
    | succ I =>
      have h0 : x.1.nm ≠ t := hno 0 (by omega)
      have h1 : gp (x :: xs) (I + 1) = gp xs I := by simp [gp]
      rw [h1] at h ⊢
      rw [← ih (by simpa using hI) h (fun j hj => by have := hno (j + 1) (by omega); simpa [gp] using this)]
      show (match (List.find? (fun m : Me => decide (m.nm = t)) (x.1 :: fst xs)) with | some m => (m, true) | none => (me0, false)) = _
      rw [List.find?_cons, decide_eq_false h0]
      rfl
theorem fd_no {xs : List P} {t : ByteArray} (hno : ∀ j, j < xs.length → (gp xs j).1.nm ≠ t) : fdM (fst xs) t = (me0, false) := by
  unfold fdM
  have : (fst xs).find? (fun m => decide (m.nm = t)) = none := by
    rw [List.find?_eq_none]
    intro m hm
    obtain ⟨x, hx, rfl⟩ := List.mem_map.1 hm
    obtain ⟨i, hi, rfl⟩ := List.mem_iff_getElem.1 hx
    have := hno i hi
    unfold gp at this
    rw [List.getD_eq_getElem?_getD, List.getElem?_eq_getElem hi] at this
    simpa using this
  rw [this]
/-- a member and whether it is there are returned; the accounts are new, or are read -/
def FPost (r : Me × Bool) (w : World) : Ending → World → Prop := fun e w' => ∃ a' c', e = .returned (.tuple #[.agg #[.string r.1.nm, .int .u8 r.1.ro, .bool r.1.su, .int .i64 r.1.lim, .slice a' r.1.ac.length c'], .bool r.2]) ∧ AtL w' 4 acc a' r.1.ac ∧ Below w.heap.size w w'
def FPostO (r : Me × Bool) (w : World) : Ending → World → Prop := fun e w' => ∃ a' c', e = .returned (.tuple #[.agg #[.string r.1.nm, .int .u8 r.1.ro, .bool r.1.su, .int .i64 r.1.lim, .slice a' r.1.ac.length c'], .bool r.2]) ∧ OwnL w' w.heap.size 32 4 acc (.slice a' r.1.ac.length c') r.1.ac ∧ Below w.heap.size w w'
theorem FPostO.weak {r : Me × Bool} {w w' : World} {e : Ending} (h : FPostO r w e w') : FPost r w e w' := by
  obtain ⟨a', c', h1, h2, h3⟩ := h
  exact ⟨a', c', h1, (h2.sl acc_len).1, h3⟩

set_option maxRecDepth 100000 in
theorem new_any (w : World) : Calls Try.prog 28 #[] w fun e w' => e = .returned (.agg #[.slice none 0 0]) ∧ Below w.heap.size w w' := by
  have hX := blk_new w (.cells #[.slice none 0 0] 24)
  have y0 := cell_of hX 0 _ rfl
  have yf := frozen_of hX 0
  have hb : Below w.heap.size w (w.alloc (.cells #[.slice none 0 0] 24)) := (Below.refl _ _).alloc (Nat.le_refl _) _
  clear hX
  go_enter Try.func28, Try.ntmps28
  go_wp2_with fail
  exact bodyPost_ret (by simp [results, Try.results28, go_sem]) rfl ⟨rfl, hb⟩

set_option maxRecDepth 100000 in
theorem isname_any (x : P) (t : ByteArray) (N : Nat) (w : World) (hN : w.cell? ⟨N, 0, none⟩ = some (.string t)) :
    Calls Try.prog 70 #[.agg #[.string x.1.nm, .int .u8 x.1.ro, .bool x.1.su, .int .i64 x.1.lim, .slice x.2.1 x.1.ac.length x.2.2], .pointer (some ⟨N, 0, none⟩)] w fun e w' => e = .returned (.bool (decide (x.1.nm = t))) ∧ Below w.heap.size w w' := by
  have hb : Below w.heap.size w (w.alloc (.cells #[.string x.1.nm, .int .u8 x.1.ro, .bool x.1.su, .int .i64 x.1.lim, .slice x.2.1 x.1.ac.length x.2.2] 30)) := (Below.refl _ _).alloc (Nat.le_refl _) _
  have HE := Lib.hid (eqd x.1.nm t)
  have hN2 := keep hN hb
  go_enter Try.func70, Try.ntmps70
  go_wp2
  go_ret
  exact ⟨ret_bool HE.out, hb⟩
set_option maxRecDepth 100000 in
set_option maxHeartbeats 2000000 in
theorem index_any (a : Option Addr) (c : Nat) (l : List P) (t : ByteArray) (N : Nat) (w : World) (hn : l.length ≤ 1000) (hA : AtL w 5 mec a l) (hN : w.cell? ⟨N, 0, none⟩ = some (.string t)) :
    Calls Try.prog 69 #[.slice a l.length c, .func (.func 70) #[] #[.pointer (some ⟨N, 0, none⟩)]] w fun e w' => ∃ k : Int, e = .returned (.int .i64 k) ∧ ((k = -1 ∧ ∀ i, i < l.length → (gp l i).1.nm ≠ t) ∨ ∃ I : Nat, k = I ∧ I < l.length ∧ (gp l I).1.nm = t ∧ ∀ j, j < I → (gp l j).1.nm ≠ t) ∧ Below w.heap.size w w' := by
  have HA := Lib.hid hA
  have HN := Lib.hid (show ∀ wx, Below w.heap.size w wx → wx.cell? ⟨N, 0, none⟩ = some (.string t) from fun wx h => keep hN h)
  clear hA hN
  go_enter Try.func69, Try.ntmps69
  go_wp2_with fail
  go_loopw [5, 8] (fun _ i wr => ∃ I0 : Nat, I0 ≤ l.length ∧ i = .int .i64 I0 ∧ Hid (∀ j, j < I0 → (gp l j).1.nm ≠ t) ∧ Hid (Below w.heap.size w wr)) (fun _ i _ => l.length - (intOf i).toNat)
  case atStart => exact ⟨0, by omega, rfl, fun j hj => by omega, Below.refl _ _⟩
  case round =>
    obtain ⟨I0, hI, rfl, HNO, HB⟩ := hrel
    rcases Nat.lt_or_ge I0 l.length with hil | hge
    · have hki : (I0 : Int) < l.length := by omega
      have hk0 : (0 : Int) ≤ (I0 : Int) := by omega
      obtain ⟨lb, lo, rfl, q0, q1, q2, q3, q4⟩ := at_p (HA.out.below HB.out) I0 hil
      have HZ := Lib.hid (isname_any (gp l I0) t N wr (HN.out _ HB.out))
      go_wp2_with fail
      refine HZ.out.mono ?_
      rintro e w1 ⟨rfl, hb1⟩
      have HB1 := Lib.hid (bt HB.out hb1 (Nat.le_refl _))
      clear hb1 HZ
      obtain ⟨b, hb⟩ : ∃ b : Bool, (decide ((gp l I0).1.nm = t)) = b := ⟨_, rfl⟩
      rw [hb]
      have HBB := Lib.hid hb
      clear hb
      cases b
      · go_wp2_with fail
        go_roundw
        case rel =>
          refine ⟨I0 + 1, by omega, by go_num, fun j hj => ?_, HB1⟩
          rcases Nat.eq_or_lt_of_le (show j ≤ I0 by omega) with e | e
          · rw [e]; exact of_decide_eq_false HBB.out
          · exact HNO.out j e
        case measure => simp [intOf]; omega
      · go_wp2_with fail
        go_ret
        exact ⟨_, rfl, .inr ⟨I0, rfl, hil, of_decide_eq_true HBB.out, HNO.out⟩, HB1.out⟩
    · obtain rfl : I0 = l.length := by omega
      go_wp2_with fail
      go_ret
      exact ⟨_, rfl, .inl ⟨rfl, HNO.out⟩, HB.out⟩

theorem blk_three (w : World) (o p q : Obj) : (((w.alloc o).alloc p).alloc q).heap[w.heap.size]? = some o ∧ (((w.alloc o).alloc p).alloc q).heap[w.heap.size + 1]? = some p ∧ (((w.alloc o).alloc p).alloc q).heap[w.heap.size + 1 + 1]? = some q := by
  have h := blk_two w o p
  refine ⟨blk_past _ _ h.1, blk_past _ _ h.2, ?_⟩
  have := blk_new ((w.alloc o).alloc p) q
  simpa using this

set_option maxRecDepth 100000 in
set_option maxHeartbeats 4000000 in
theorem mfind_any (a : Option Addr) (c : Nat) (xs : List P) (t : ByteArray) (w : World) (hn : xs.length ≤ 1000) (hZ : ∀ x ∈ xs, x.1.ac.length ≤ 1000) (hA : AtM w a xs) :
    Calls Try.prog 32 #[.agg #[.slice a xs.length c], .string t] w (FPostO (fdM (fst xs) t) w) := by
  have HA := Lib.hid hA
  have HZ := Lib.hid hZ
  have hbo : Below w.heap.size w (((w.alloc (.cells #[.slice a xs.length c] 24)).alloc (.cells #[.string t] 9)).alloc (.cells #[.string ⟨#[]⟩, .int .u8 0, .bool false, .int .i64 0, .slice none 0 0] 30)) := (((Below.refl _ _).alloc (Nat.le_refl _) _).alloc (by simp) _).alloc (by simp <;> omega) _
  have HX := Lib.hid (blk_three w (.cells #[.slice a xs.length c] 24) (.cells #[.string t] 9) (.cells #[.string ⟨#[]⟩, .int .u8 0, .bool false, .int .i64 0, .slice none 0 0] 30))
  have HI := Lib.hid (fun wx (h : AtL wx 5 mec a xs) => index_any a c xs t (w.heap.size + 1) wx hn h)
  obtain ⟨r, hr⟩ : ∃ r, r = fdM (fst xs) t := ⟨_, rfl⟩
  rw [← hr]
  have HR := Lib.hid hr
  clear hr hA hZ
  go_enter Try.func32, Try.ntmps32
  have x0 := cell_of HX.out.1 0 _ rfl
  go_wp2_with fail
  generalize ((w.alloc _).alloc _).alloc _ = wo at hbo HX x0 ⊢
  refine (HI.out wo ((HA.out.below hbo).ms) (cell_of HX.out.2.1 0 _ rfl)).mono ?_
  rintro e w1 ⟨k, rfl, hk, hb1⟩
  have HX1 := Lib.hid (blk_keep HX.out.1 hb1)
  have HY1 := Lib.hid (blk_keep HX.out.2.2 hb1)
  have c1 := bt hbo hb1 (Nat.le_refl _)
  clear HX hb1 hbo x0 HI
  rcases hk with ⟨rfl, hno⟩ | ⟨I, rfl, hI, hyes, hno⟩
  · have HR2 := Lib.hid (show r = (me0, false) by rw [HR.out]; exact fd_no hno)
    clear hno HR
    have y0 := cell_of HY1.out 0 _ rfl
    have y1 := cell_of HY1.out 1 _ rfl
    have y2 := cell_of HY1.out 2 _ rfl
    have y3 := cell_of HY1.out 3 _ rfl
    have y4 := cell_of HY1.out 4 _ rfl
    have yf0 := frozen_of HY1.out 0
    have yf1 := frozen_of HY1.out 1
    have yf2 := frozen_of HY1.out 2
    have yf3 := frozen_of HY1.out 3
    have yf4 := frozen_of HY1.out 4
    go_wp2_with fail
    have h5 := set5 HY1.out (.string ⟨#[]⟩) (.int .u8 0) (.bool false) (.int .i64 0) (.slice none 0 0)
    have r0 := cell_of h5 0 _ rfl
    have r1 := cell_of h5 1 _ rfl
    have r2 := cell_of h5 2 _ rfl
    have r3 := cell_of h5 3 _ rfl
    have r4 := cell_of h5 4 _ rfl
    have hb : w.heap.size ≤ w.heap.size + 1 + 1 := by omega
    refine bodyPost_ret (v := .tuple #[.agg #[.string ⟨#[]⟩, .int .u8 0, .bool false, .int .i64 0, .slice none 0 0], .bool false]) (by simp [results, Try.results32, go_sem, r0, r1, r2, r3, r4]) rfl ⟨none, 0, by rw [HR2.out]; rfl, by rw [HR2.out]; exact OwnL.nil _ _ _ _ _, ((((c1.setCell (p := ⟨w.heap.size + 1 + 1, 0, none⟩) hb _).setCell (p := ⟨w.heap.size + 1 + 1, 1, none⟩) hb _).setCell (p := ⟨w.heap.size + 1 + 1, 2, none⟩) hb _).setCell (p := ⟨w.heap.size + 1 + 1, 3, none⟩) hb _).setCell (p := ⟨w.heap.size + 1 + 1, 4, none⟩) hb _⟩
  · have HR2 := Lib.hid (show r = ((gp xs I).1, true) by rw [HR.out]; exact fd_yes hI hyes hno)
    clear hno hyes HR
    have hki : (I : Int) < xs.length := by omega
    have hk0 : (0 : Int) ≤ (I : Int) := by omega
    have hk1 : ¬ (I : Int) < 0 := by omega
    have HT := Lib.hid (twin_any (gp xs I) w1 (HZ.out _ (gp_mem xs I hI)) ((HA.out.below c1).ac _ (gp_mem xs I hI)))
    obtain ⟨b, off, rfl, q0, q1, q2, q3, q4⟩ := at_p (HA.out.below c1).ms I hI
    generalize gp xs I = x at *
    have x0 := cell_of HX1.out 0 _ rfl
    go_wp2_with fail
    refine HT.out.mono ?_
    rintro e w2 ⟨a', c', rfl, ho, hb2⟩
    have HY2 := Lib.hid (blk_keep HY1.out hb2)
    have c2 := bt c1 hb2 (Nat.le_refl _)
    have HO := Lib.hid (ho.lower' c1.size)
    clear HY1 HX1 x0 q0 q1 q2 q3 q4 hb2 HT ho
    have y0 := cell_of HY2.out 0 _ rfl
    have y1 := cell_of HY2.out 1 _ rfl
    have y2 := cell_of HY2.out 2 _ rfl
    have y3 := cell_of HY2.out 3 _ rfl
    have y4 := cell_of HY2.out 4 _ rfl
    have yf0 := frozen_of HY2.out 0
    have yf1 := frozen_of HY2.out 1
    have yf2 := frozen_of HY2.out 2
    have yf3 := frozen_of HY2.out 3
    have yf4 := frozen_of HY2.out 4
    go_wp2_with fail
    have h5 := set5 HY2.out (.string x.1.nm) (.int .u8 x.1.ro) (.bool x.1.su) (.int .i64 x.1.lim) (.slice a' x.1.ac.length c')
    have r0 := cell_of h5 0 _ rfl
    have r1 := cell_of h5 1 _ rfl
    have r2 := cell_of h5 2 _ rfl
    have r3 := cell_of h5 3 _ rfl
    have r4 := cell_of h5 4 _ rfl
    have hb : w.heap.size ≤ w.heap.size + 1 + 1 := by omega
    have hn := own_blk HO.out HY2.out (by decide)
    refine bodyPost_ret (v := .tuple #[.agg #[.string x.1.nm, .int .u8 x.1.ro, .bool x.1.su, .int .i64 x.1.lim, .slice a' x.1.ac.length c'], .bool true]) (by simp [results, Try.results32, go_sem, r0, r1, r2, r3, r4]) rfl ⟨a', c', by rw [HR2.out], by rw [HR2.out]; exact ((((HO.out.far (p := ⟨w.heap.size + 1 + 1, 0, none⟩) hn _).far (p := ⟨w.heap.size + 1 + 1, 1, none⟩) hn _).far (p := ⟨w.heap.size + 1 + 1, 2, none⟩) hn _).far (p := ⟨w.heap.size + 1 + 1, 3, none⟩) hn _).far (p := ⟨w.heap.size + 1 + 1, 4, none⟩) hn _, ((((c2.setCell (p := ⟨w.heap.size + 1 + 1, 0, none⟩) hb _).setCell (p := ⟨w.heap.size + 1 + 1, 1, none⟩) hb _).setCell (p := ⟨w.heap.size + 1 + 1, 2, none⟩) hb _).setCell (p := ⟨w.heap.size + 1 + 1, 3, none⟩) hb _).setCell (p := ⟨w.heap.size + 1 + 1, 4, none⟩) hb _⟩
end Go.Proofs.Ytoemjpfoddeinaa.Mb
