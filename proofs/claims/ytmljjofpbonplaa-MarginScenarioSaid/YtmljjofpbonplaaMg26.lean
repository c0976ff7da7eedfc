/-
  Margin's reference: the walks of add and Join.
-/
import Derived.Test.YtmljjofpbonplaaMg20
import Derived.Test.YtmljjofpbonplaaMg21
import Derived.Test.YtmljjofpbonplaaRn
namespace Go.Proofs.Ytmljjofpbonplaa.Mg
open Go.RowKit Go.Proofs.Ytmljjofpbonplaa Go.Proofs.Ytmljjofpbonplaa.Nm Go.Proofs.Ytmljjofpbonplaa.Ls

/-- a step of the reference's add -/
def stp (p : ByteArray × Int) (st : PL × Bool) (x : ByteArray × Int) : PL × Bool := if x.1 = p.1 then (st.1 ++ [(x.1, x.2 + p.2)], true) else if (!st.2 && lt p.1 x.1) = true then (st.1 ++ [p, x], true) else (st.1 ++ [x], st.2)
def fin (p : ByteArray × Int) (st : PL × Bool) : PL := if st.2 = true then st.1 else st.1 ++ [p]
theorem fin_stp (p : ByteArray × Int) (xs : PL) (o : PL) (d : Bool) : fin p (xs.foldl (stp p) (o, d)) = o ++ addF d p xs := by
  induction xs generalizing o d with
  | nil => cases d <;> simp [fin, addF]
  | cons x xs ih =>
    rw [List.foldl_cons, addF]
    by_cases h1 : x.1 = p.1
    · rw [if_pos h1]
      have : stp p (o, d) x = (o ++ [(x.1, x.2 + p.2)], true) := by unfold stp; rw [if_pos h1]
      rw [this, ih]
      simp
    · rw [if_neg h1]
      by_cases h2 : (!d && lt p.1 x.1) = true
      · have : stp p (o, d) x = (o ++ [p, x], true) := by unfold stp; rw [if_neg h1, if_pos h2]
        rw [this, ih, if_pos h2]
        simp
      · have : stp p (o, d) x = (o ++ [x], d) := by unfold stp; rw [if_neg h1, if_neg h2]
        rw [this, ih, if_neg h2]
        simp
theorem fold_take (p : ByteArray × Int) (xs : PL) (k : Nat) (hk : k < xs.length) : (xs.take (k + 1)).foldl (stp p) ([], false) = stp p ((xs.take k).foldl (stp p) ([], false)) xs[k] := by
  rw [List.take_succ_eq_append_getElem hk, List.foldl_append]
  rfl
theorem fold_len (p : ByteArray × Int) (xs : PL) (st : PL × Bool) : (xs.foldl (stp p) st).1.length ≤ st.1.length + 2 * xs.length := by
  induction xs generalizing st with
  | nil => simp
  | cons x xs ih =>
    rw [List.foldl_cons]
    have h := ih (stp p st x)
    have : (stp p st x).1.length ≤ st.1.length + 2 := by
      unfold stp
      split
      · simp
      · split <;> simp
    simp only [List.length_cons]
    omega
theorem addF_len (d : Bool) (p : ByteArray × Int) (xs : PL) : (addF d p xs).length ≤ xs.length + 1 := by
  induction xs generalizing d with
  | nil => cases d <;> simp [addF]
  | cons x xs ih =>
    have h1 : (addF true p xs).length ≤ xs.length := by
      clear ih
      induction xs with
      | nil => simp [addF]
      | cons y ys ih2 =>
        rw [addF]
        split
        · simp only [List.length_cons]; omega
        · simp only [Bool.not_true, Bool.false_and, Bool.false_eq_true, if_false, List.length_cons]; omega
    have h2 := ih d
    rw [addF]
    split
    · simp only [List.length_cons]; omega
    · split
      · simp only [List.length_cons]; omega
      · simp only [List.length_cons]; omega
/-- what the reference's add returns -/
def AddPost (p : ByteArray × Int) (xs : PL) (w : World) : Ending → World → Prop := fun e w' => ∃ v, e = .returned v ∧ OwnL w' w.heap.size 51 2 pc v (addF false p xs) ∧ Below w.heap.size w w'
theorem far_blk {W w9 : World} {v : Value} {b : Nat} {o : Obj} (hg : W.grownBy w9 v.ownBlock) (h : W.heap[b]? = some o) (hne : v.ownBlock ≠ some b) : w9.heap[b]? = some o := (hg.block b (blk_lt h) (fun e => hne e.symm)).trans h
theorem OwnL.lower {w : World} {B B' : Nat} {T : TypeId} {v : Value} {xs : PL} (h : OwnL w B T 2 pc v xs) (hB : B' ≤ B) : OwnL w B' T 2 pc v xs := by
  refine ⟨h.1, ?_⟩
  rcases h.2 with hn | ⟨g, cap, cur, h1, h2, h3⟩
  · exact .inl hn
  · exact .inr ⟨g, cap, cur, h1, by omega, h3⟩
theorem blk_new2 (w : World) (o q : Obj) : ((w.alloc o).alloc q).heap[w.heap.size + 1]? = some q := (blk_two w o q).2

set_option maxRecDepth 100000 in
set_option maxHeartbeats 4000000 in
theorem refAdd_any (a : Option Addr) (c : Nat) (p : ByteArray × Int) (xs : PL) (w : World) (hn : xs.length ≤ 100) (hA : AtL w 2 pc a xs) (hq : ∀ x ∈ xs, -1099511627776 ≤ x.2 ∧ x.2 ≤ 1099511627776) (hp : -1099511627776 ≤ p.2 ∧ p.2 ≤ 1099511627776) :
    Calls Try.prog 51 #[.slice a xs.length c, .agg #[.string p.1, .int .i64 p.2]] w (AddPost p xs w) := by
  have hx0 := blk_new w (.cells #[.string p.1, .int .i64 p.2] 51)
  have hbo : Below w.heap.size w (w.alloc (.cells #[.string p.1, .int .i64 p.2] 51)) := (Below.refl _ _).alloc (Nat.le_refl _) _
  have HAT := Lib.hid hA
  have HQ := Lib.hid hq
  clear hA hq
  go_enter Try.func51, Try.ntmps51
  go_wp2_with fail
  generalize w.alloc _ = wo at hx0 hbo ⊢
  go_loopw [5, 6, 7, 8] (fun o d i _ wr => ∃ (k : Nat) (st : PL × Bool), k ≤ xs.length ∧ i = .int .i64 k ∧ Hid (st = (xs.take k).foldl (stp p) ([], false)) ∧ d = .bool st.2 ∧ Hid (OwnL wr (w.heap.size + 1) 51 2 pc o st.1) ∧ Below w.heap.size w wr ∧ Hid (wr.heap[w.heap.size]? = some (.cells #[.string p.1, .int .i64 p.2] 51 (0, 0)))) (fun _ _ i _ _ => xs.length - (intOf i).toNat)
  case atStart => exact ⟨0, ([], false), by omega, rfl, rfl, rfl, OwnL.nil _ _ _ _ _, hbo, hx0⟩
  case round =>
    clear hx0 hbo
    obtain ⟨k, st, hk, rfl, HS, rfl, HO, hbw, HX⟩ := hrel
    have p0 : wr.cell? ⟨w.heap.size, 0, none⟩ = some (.string p.1) := cell_of HX.out 0 _ rfl
    have p1 : wr.cell? ⟨w.heap.size, 1, none⟩ = some (.int .i64 p.2) := cell_of HX.out 1 _ rfl
    have hws : w.heap.size < wr.heap.size := blk_lt HX.out
    have HLEN : Hid (st.1.length ≤ 200) := by
      have h1 := fold_len p (xs.take k) ([], false)
      rw [← HS.out] at h1
      have h2 := List.length_take_le k xs
      exact (show _ ≤ _ by simp at h1; omega)
    by_cases hlt : k < xs.length
    · obtain ⟨bx, ox, rfl, hcx⟩ := (HAT.out.below hbw) k _ (getElem?_lt hlt)
      have q0 : wr.cell? ⟨bx, ox + k * 2, none⟩ = some (.string xs[k].1) := hcx 0 _ rfl
      have q1 : wr.cell? ⟨bx, ox + k * 2 + 1, none⟩ = some (.int .i64 xs[k].2) := hcx 1 _ rfl
      have hbx : bx < wr.heap.size := World.block_lt_of_cell? _ _ q0
      clear hcx
      have hq0 := HQ.out _ (List.getElem_mem hlt)
      have HFT := Lib.hid (show (xs.take (k + 1)).foldl (stp p) ([], false) = stp p st xs[k] by rw [HS.out]; exact fold_take p xs k hlt)
      generalize xs[k] = x at *
      have k0 : (0 : Int) ≤ k := by omega
      have k1 : (k : Int) < xs.length := by omega
      have n1 : IntKind.i64.wrap (x.2 + p.2) = x.2 + p.2 := IntWalk.i64_in _ (by omega)
      have hown6 := HO.out.lt
      have HNE := Lib.hid (show u5.ownBlock ≠ some wr.heap.size ∧ u5.ownBlock ≠ some w.heap.size from ⟨fun e => by have := hown6 _ e; omega, fun e => by have := hown6 _ e; omega⟩)
      clear hown6
      obtain ⟨so, sd⟩ := st
      simp only at *
      by_cases h1 : x.1 = p.1
      · have t1 : (x.1.toList == p.1.toList) = true := by rw [h1]; exact beq_self_eq_true _
        have HST := Lib.hid (show (so ++ [(x.1, x.2 + p.2)], true) = (xs.take (k + 1)).foldl (stp p) ([], false) by rw [HFT.out]; unfold stp; rw [if_pos h1])
        clear h1
        go_wp2_with (at_builtin; refine wpList_append_L (P := Try.prog) (α := ByteArray × Int) rfl _ _ _ rfl 51 (.agg #[.string ⟨#[]⟩, .int .i64 0]) 2 24 Try.underlying26 (by kernel_rfl) rfl (by decide) (w.heap.size + 1) pc u5 so (x.1, x.2 + p.2) (wr.heap.size + 1) #[.string x.1, .int .i64 (x.2 + p.2)] rfl rfl (HO.out.below (((Below.refl _ _).alloc (Nat.le_refl _) _).alloc (by simp) _)) (blk_new2 wr _ _) rfl rfl (by simp [pc, Value.oneCell']) (by have := HLEN.out; unfold maxLen; omega) (by have := HLEN.out; omega) (by simp; omega) ?_; intro gw9 capw9 w9 hownw9 hgrw9 hatw9)
        have HC9 := Lib.hid (((hbw.alloc hbw.size _).alloc (by have := hbw.size; simp; omega) _).grown hgrw9 (by simp; omega) (fun k hk => by have := (HO.out.lt k hk).1; omega))
        have HX9 := Lib.hid (far_blk hgrw9 (blk_past _ _ (blk_past _ _ HX.out)) HNE.out.2)
        have HO9 := Lib.hid hownw9
        clear hownw9 hgrw9 hatw9 HO hbw HX p0 p1
        go_wp2
        go_roundw
        case rel => exact ⟨k + 1, _, by omega, by go_num, HST, rfl, HO9, HC9.out, HX9⟩
        case measure => simp [intOf]; omega
      · have t1 : (x.1.toList == p.1.toList) = false := beq_eq_false_iff_ne.2 (fun h => h1 (str_ext h))
        have h2 : stp p (so, sd) x = if (!sd && lt p.1 x.1) = true then (so ++ [p, x], true) else (so ++ [x], sd) := by unfold stp; rw [if_neg h1]
        cases sd with
        | true =>
          have HST := Lib.hid (show (so ++ [x], true) = (xs.take (k + 1)).foldl (stp p) ([], false) by rw [HFT.out, h2]; rfl)
          clear h1 h2
          go_wp2_with (at_builtin; refine wpList_append_L (P := Try.prog) (α := ByteArray × Int) rfl _ _ _ rfl 51 (.agg #[.string ⟨#[]⟩, .int .i64 0]) 2 24 Try.underlying26 (by kernel_rfl) rfl (by decide) (w.heap.size + 1) pc u5 so (x.1, x.2) (wr.heap.size + 1) #[.string x.1, .int .i64 x.2] rfl rfl (HO.out.below (((Below.refl _ _).alloc (Nat.le_refl _) _).alloc (by simp) _)) (blk_new2 wr _ _) rfl rfl (by simp [pc, Value.oneCell']) (by have := HLEN.out; unfold maxLen; omega) (by have := HLEN.out; omega) (by simp; omega) ?_; intro gw9 capw9 w9 hownw9 hgrw9 hatw9)
          have HC9 := Lib.hid (((hbw.alloc hbw.size _).alloc (by have := hbw.size; simp; omega) _).grown hgrw9 (by simp; omega) (fun k hk => by have := (HO.out.lt k hk).1; omega))
          have HX9 := Lib.hid (far_blk hgrw9 (blk_past _ _ (blk_past _ _ HX.out)) HNE.out.2)
          have HO9 := Lib.hid hownw9
          clear hownw9 hgrw9 hatw9 HO hbw HX p0 p1
          go_wp2
          go_roundw
          case rel => exact ⟨k + 1, _, by omega, by go_num, HST, rfl, HO9, HC9.out, HX9⟩
          case measure => simp [intOf]; omega
        | false =>
          rcases hb (lt p.1 x.1) with h3 | h3
          · have t2 : Op.bytesLess x.1.toList p.1.toList = false := lt_asymm h3
            have HST := Lib.hid (show (so ++ [p, x], true) = (xs.take (k + 1)).foldl (stp p) ([], false) by rw [HFT.out, h2, h3]; rfl)
            clear h1 h2 h3
            go_wp2_with (first | (at_builtin; refine wpList_append_L (P := Try.prog) (α := ByteArray × Int) rfl _ _ _ rfl 51 (.agg #[.string ⟨#[]⟩, .int .i64 0]) 2 24 Try.underlying26 (by kernel_rfl) rfl (by decide) (w.heap.size + 1) pc u5 so (p.1, p.2) (wr.heap.size + 1) #[.string p.1, .int .i64 p.2] rfl rfl (HO.out.below (((Below.refl _ _).alloc (Nat.le_refl _) _).alloc (by simp) _)) (blk_new2 wr _ _) rfl rfl (by simp [pc, Value.oneCell']) (by have := HLEN.out; unfold maxLen; omega) (by have := HLEN.out; omega) (by simp; omega) ?_; intro gw9 capw9 w9 hownw9 hgrw9 hatw9; (have HC9 := Lib.hid (((hbw.alloc hbw.size _).alloc (by have := hbw.size; simp; omega) _).grown hgrw9 (by simp; omega) (fun k hk => by have := (HO.out.lt k hk).1; omega))); (have HX9 := Lib.hid (far_blk hgrw9 (blk_past _ _ (blk_past _ _ HX.out)) HNE.out.2)); (have HB9 := Lib.hid (far_blk hgrw9 (blk_past _ _ (blk_new wr (.cells #[.string x.1, .int .i64 x.2] 51))) HNE.out.1)); (have HO9 := Lib.hid hownw9); (have hne9 : gw9 ≠ w.heap.size := by have := (hownw9.lt gw9 rfl).1 ; omega); (have HL2 : Hid ((so ++ [(p.1, p.2)]).length ≤ 300) := by have := HLEN.out; exact (show _ ≤ _ by simp; omega)); (have z0 : w9.cell? ⟨wr.heap.size, 0, none⟩ = some (.string x.1) := cell_of HB9.out 0 _ rfl); (have z1 : w9.cell? ⟨wr.heap.size, 1, none⟩ = some (.int .i64 x.2) := cell_of HB9.out 1 _ rfl); (clear hownw9 hgrw9 hatw9 HO hbw HX p0 p1)) | (at_builtin; refine wpList_append_L (P := Try.prog) (α := ByteArray × Int) rfl _ _ _ rfl 51 (.agg #[.string ⟨#[]⟩, .int .i64 0]) 2 24 Try.underlying26 (by kernel_rfl) rfl (by decide) (w.heap.size + 1) pc (.slice (some ⟨gw9, 0, none⟩) (so.length + 1) capw9) (so ++ [(p.1, p.2)]) (x.1, x.2) w9.heap.size #[.string x.1, .int .i64 x.2] rfl rfl (HO9.out.below ((Below.refl _ _).alloc (Nat.le_refl _) _)) (blk_new _ _) rfl rfl (by simp [pc, Value.oneCell']) (by have := HL2.out; unfold maxLen; omega) (by have := HL2.out; omega) (by have := HC9.out.size; simp; omega) ?_; intro gv9 capv9 v9 hownv9 hgrv9 hatv9))
            have HC8 := Lib.hid ((HC9.out.alloc HC9.out.size _).grown hgrv9 (by have := HC9.out.size; simp; omega) (fun k hk => by have := (HO9.out.lt k hk).1; omega))
            have HX8 := Lib.hid (far_blk hgrv9 (blk_past _ _ HX9.out) (by simp [Value.ownBlock]; exact hne9))
            have HO8 : Hid (OwnL v9 (w.heap.size + 1) 51 2 pc (.slice (some ⟨gv9, 0, none⟩) (so.length + 1 + 1) capv9) (so ++ [p, x])) := by
              have := hownv9
              rw [List.append_assoc, List.length_append] at this
              exact this
            clear hownv9 hgrv9 hatv9 HO9 HC9 HX9 HB9 z0 z1
            go_wp2
            go_roundw
            case rel => exact ⟨k + 1, _, by omega, by go_num, HST, rfl, HO8, HC8.out, HX8⟩
            case measure => simp [intOf]; omega
          · have t2 : Op.bytesLess x.1.toList p.1.toList = true := by
              rcases three x.1 p.1 with h | h | h
              · exact h
              · rw [h3] at h; cases h
              · exact absurd h h1
            have HST := Lib.hid (show (so ++ [x], false) = (xs.take (k + 1)).foldl (stp p) ([], false) by rw [HFT.out, h2, h3]; rfl)
            clear h1 h2 h3
            go_wp2_with (at_builtin; refine wpList_append_L (P := Try.prog) (α := ByteArray × Int) rfl _ _ _ rfl 51 (.agg #[.string ⟨#[]⟩, .int .i64 0]) 2 24 Try.underlying26 (by kernel_rfl) rfl (by decide) (w.heap.size + 1) pc u5 so (x.1, x.2) (wr.heap.size + 1) #[.string x.1, .int .i64 x.2] rfl rfl (HO.out.below (((Below.refl _ _).alloc (Nat.le_refl _) _).alloc (by simp) _)) (blk_new2 wr _ _) rfl rfl (by simp [pc, Value.oneCell']) (by have := HLEN.out; unfold maxLen; omega) (by have := HLEN.out; omega) (by simp; omega) ?_; intro gw9 capw9 w9 hownw9 hgrw9 hatw9)
            have HC9 := Lib.hid (((hbw.alloc hbw.size _).alloc (by have := hbw.size; simp; omega) _).grown hgrw9 (by simp; omega) (fun k hk => by have := (HO.out.lt k hk).1; omega))
            have HX9 := Lib.hid (far_blk hgrw9 (blk_past _ _ (blk_past _ _ HX.out)) HNE.out.2)
            have HO9 := Lib.hid hownw9
            clear hownw9 hgrw9 hatw9 HO hbw HX p0 p1
            go_wp2
            go_roundw
            case rel => exact ⟨k + 1, _, by omega, by go_num, HST, rfl, HO9, HC9.out, HX9⟩
            case measure => simp [intOf]; omega
    · obtain rfl : k = xs.length := by omega
      have HFIN := Lib.hid (show fin p st = addF false p xs by
        have := fin_stp p xs [] false
        rw [HS.out, List.take_length]
        simpa using this)
      obtain ⟨so, sd⟩ := st
      simp only at *
      cases sd with
      | true =>
        have HF2 := Lib.hid (show so = addF false p xs from HFIN.out)
        go_wp2
        go_ret
        exact ⟨_, rfl, by rw [← HF2.out]; exact (OwnL.lower HO.out (by omega)), hbw⟩
      | false =>
        have HF2 := Lib.hid (show so ++ [(p.1, p.2)] = addF false p xs from HFIN.out)
        go_wp2_with (at_builtin; refine wpList_append_L (P := Try.prog) (α := ByteArray × Int) rfl _ _ _ rfl 51 (.agg #[.string ⟨#[]⟩, .int .i64 0]) 2 24 Try.underlying26 (by kernel_rfl) rfl (by decide) (w.heap.size + 1) pc u5 so (p.1, p.2) wr.heap.size #[.string p.1, .int .i64 p.2] rfl rfl (HO.out.below ((Below.refl _ _).alloc (Nat.le_refl _) _)) (blk_new _ _) rfl rfl (by simp [pc, Value.oneCell']) (by have := HLEN.out; unfold maxLen; omega) (by have := HLEN.out; omega) (by simp; omega) ?_; intro gw9 capw9 w9 hownw9 hgrw9 hatw9)
        have HC9 := Lib.hid ((hbw.alloc hbw.size _).grown hgrw9 (by simp; omega) (fun k hk => by have := (HO.out.lt k hk).1; omega))
        rw [HF2.out] at hownw9
        go_wp2
        go_ret
        exact ⟨_, rfl, (OwnL.lower hownw9 (by omega)), HC9.out⟩
end Go.Proofs.Ytmljjofpbonplaa.Mg
