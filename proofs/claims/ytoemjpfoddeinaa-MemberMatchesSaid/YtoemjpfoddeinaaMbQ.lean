/-
  Member: the walks of the reference's SameMember and Same.
-/
import Derived.Test.YtoemjpfoddeinaaMbP
import Derived.Laws.StructEq
namespace Go.Proofs.Ytoemjpfoddeinaa.Mb
open Go.RowKit Go.Proofs.Ytoemjpfoddeinaa Go.Proofs.Ytoemjpfoddeinaa.Ls Go.Proofs.Ytoemjpfoddeinaa.Kb
open Go.Proofs.Ytoemjpfoddeinaa.Nm hiding ret_bool ret_int

theorem getE {α : Type} {xs : List α} {i : Nat} (h : i < xs.length) : xs[i]? = some xs[i] := List.getElem?_eq_getElem h
theorem ac_ext {x y : Ac} (h1 : x.nm = y.nm) (h2 : x.cl = y.cl) (h3 : x.lim = y.lim) (h4 : x.us = y.us) : x = y := by
  cases x; cases y; simp_all
instance : DecidableEq Ac := fun x y => if h : x.nm = y.nm ∧ x.cl = y.cl ∧ x.lim = y.lim ∧ x.us = y.us then isTrue (ac_ext h.1 h.2.1 h.2.2.1 h.2.2.2) else isFalse (fun e => h (by subst e; exact ⟨rfl, rfl, rfl, rfl⟩))
theorem me_ext {x y : Me} (h1 : x.nm = y.nm) (h2 : x.ro = y.ro) (h3 : x.su = y.su) (h4 : x.lim = y.lim) (h5 : x.ac = y.ac) : x = y := by
  cases x; cases y; simp_all
instance : DecidableEq Me := fun x y => if h : x.nm = y.nm ∧ x.ro = y.ro ∧ x.su = y.su ∧ x.lim = y.lim ∧ x.ac = y.ac then isTrue (me_ext h.1 h.2.1 h.2.2.1 h.2.2.2.1 h.2.2.2.2) else isFalse (fun e => h (by subst e; exact ⟨rfl, rfl, rfl, rfl, rfl⟩))
theorem fields_ac : (Try.prog.fieldsOf 32).toList = [⟨"Name", 9, 0, false, "", "", 0⟩, ⟨"Client", 4, 1, false, "", "", 16⟩, ⟨"Limit", 3, 2, false, "", "", 24⟩, ⟨"Used", 3, 3, false, "", "", 32⟩] := by kernel_rfl
theorem run_ac (x y : Ac) (w : World) : (Op.equalIn 10000 32 (.agg #[.string x.nm, .bool x.cl, .int .i64 x.lim, .int .i64 x.us]) (.agg #[.string y.nm, .bool y.cl, .int .i64 y.lim, .int .i64 y.us])).run Try.prog w = .ok (decide (x = y)) w := by
  rw [run_equalIn_struct w 9999 _ _ _ (by kernel_rfl) (by kernel_rfl), fields_ac]
  obtain ⟨a, b, c, d⟩ := x
  obtain ⟨a', b', c', d'⟩ := y
  have key : ∀ s t : ByteArray, (s.toList = t.toList) = (s = t) := fun s t => propext ⟨fun h => str_ext h, fun h => by rw [h]⟩
  by_cases h1 : a = a'
  · subst h1
    by_cases h2 : b = b'
    · subst h2
      by_cases h3 : c = c'
      · subst h3
        by_cases h4 : d = d'
        · subst h4
          simp [Op.eqFields, part, go_sem]
        · simp [Op.eqFields, part, go_sem, h4]
      · simp [Op.eqFields, part, go_sem, h3]
    · simp [Op.eqFields, part, go_sem, h2]
  · simp [Op.eqFields, part, go_sem, h1, key]
theorem neq_ac (x y : Ac) (b : Bool) (hb : decide (x ≠ y) = b) (w : World) : (binOp .neq 32 (.agg #[.string x.nm, .bool x.cl, .int .i64 x.lim, .int .i64 x.us]) (.agg #[.string y.nm, .bool y.cl, .int .i64 y.lim, .int .i64 y.us])).run Try.prog w = .ok (.bool b) w := by
  rw [run_neq_struct, run_ac]
  subst hb
  by_cases h : x = y <;> simp [h, Result.andThen]
theorem guard_ac (x y : Operand) (xs ys : Array Value) (w : World) : (eqGuard .neq 32 x y (.agg xs) (.agg ys)).run Try.prog w = .ok () w := run_eqGuard_agg w .neq _ x y xs ys (by kernel_rfl)

set_option maxRecDepth 100000 in
set_option maxHeartbeats 4000000 in
theorem samem_any (x y : P) (w : World) (hn : x.1.ac.length ≤ 1000) (hA : AtL w 4 acc x.2.1 x.1.ac) (hB : AtL w 4 acc y.2.1 y.1.ac) :
    Calls Try.prog 31 #[.agg #[.string x.1.nm, .int .u8 x.1.ro, .bool x.1.su, .int .i64 x.1.lim, .slice x.2.1 x.1.ac.length x.2.2], .agg #[.string y.1.nm, .int .u8 y.1.ro, .bool y.1.su, .int .i64 y.1.lim, .slice y.2.1 y.1.ac.length y.2.2]] w fun e w' => e = .returned (.bool (decide (x.1 = y.1))) ∧ Below w.heap.size w w' := by
  obtain ⟨⟨N, ro, su, lim, L⟩, a, c⟩ := x
  obtain ⟨⟨N2, ro2, su2, lim2, L2⟩, a2, c2⟩ := y
  dsimp only at *
  have HA := Lib.hid hA
  have HB := Lib.hid hB
  have hbo : Below w.heap.size w ((w.alloc (.cells #[.string N, .int .u8 ro, .bool su, .int .i64 lim, .slice a L.length c] 30)).alloc (.cells #[.string N2, .int .u8 ro2, .bool su2, .int .i64 lim2, .slice a2 L2.length c2] 30)) := ((Below.refl _ _).alloc (Nat.le_refl _) _).alloc (by simp) _
  have HX := Lib.hid (blk_two w (.cells #[.string N, .int .u8 ro, .bool su, .int .i64 lim, .slice a L.length c] 30) (.cells #[.string N2, .int .u8 ro2, .bool su2, .int .i64 lim2, .slice a2 L2.length c2] 30))
  obtain ⟨r, hr⟩ : ∃ r, r = decide ((⟨N, ro, su, lim, L⟩ : Me) = ⟨N2, ro2, su2, lim2, L2⟩) := ⟨_, rfl⟩
  rw [← hr]
  have HR := Lib.hid hr
  clear hr hA hB
  have x0 := cell_of HX.out.1 0 _ rfl
  have x1 := cell_of HX.out.1 1 _ rfl
  have x2 := cell_of HX.out.1 2 _ rfl
  have x3 := cell_of HX.out.1 3 _ rfl
  have x4 := cell_of HX.out.1 4 _ rfl
  have y0 := cell_of HX.out.2 0 _ rfl
  have y1 := cell_of HX.out.2 1 _ rfl
  have y2 := cell_of HX.out.2 2 _ rfl
  have y3 := cell_of HX.out.2 3 _ rfl
  have y4 := cell_of HX.out.2 4 _ rfl
  by_cases h1 : N = N2
  case neg =>
    have g1 := neq_yes h1
    have g1' := eq_no h1
    have HE := Lib.hid (show r = false by rw [HR.out]; exact decide_eq_false (fun e => h1 (by injection e)))
    clear HX HR
    go_enter Try.func31, Try.ntmps31
    go_wp2_with fail
    go_ret
    exact ⟨ret_bool HE.out.symm, hbo⟩
  case pos =>
    have g1 := neq_no h1
    have g1' := eq_yes h1
    have Hh1 := Lib.hid h1
    clear h1
    by_cases h2 : ro = ro2
    case neg =>
      have g2 : (ro != ro2) = true := by simp [h2]
      have HE := Lib.hid (show r = false by rw [HR.out]; exact decide_eq_false (fun e => h2 (by injection e)))
      clear HX HR
      go_enter Try.func31, Try.ntmps31
      go_wp2_with fail
      go_ret
      exact ⟨ret_bool HE.out.symm, hbo⟩
    case pos =>
      have g2 : (ro != ro2) = false := by simp [h2]
      have Hh2 := Lib.hid h2
      clear h2
      by_cases h3 : su = su2
      case neg =>
        have g3 : (su != su2) = true := by simp [h3]
        have HE := Lib.hid (show r = false by rw [HR.out]; exact decide_eq_false (fun e => h3 (by injection e)))
        clear HX HR
        go_enter Try.func31, Try.ntmps31
        go_wp2_with fail
        go_ret
        exact ⟨ret_bool HE.out.symm, hbo⟩
      case pos =>
        have Hh3 := Lib.hid h3
        subst h3
        by_cases h4 : lim = lim2
        case neg =>
          have g4 : (lim != lim2) = true := by simp [h4]
          have HE := Lib.hid (show r = false by rw [HR.out]; exact decide_eq_false (fun e => h4 (by injection e)))
          clear HX HR
          go_enter Try.func31, Try.ntmps31
          go_wp2_with fail
          go_ret
          exact ⟨ret_bool HE.out.symm, hbo⟩
        case pos =>
          have g4 : (lim != lim2) = false := by simp [h4]
          have Hh4 := Lib.hid h4
          clear h4
          by_cases h5 : L.length = L2.length
          case neg =>
            have g5 : ((L.length : Int) != L2.length) = true := by simp; omega
            have HE := Lib.hid (show r = false by rw [HR.out]; exact decide_eq_false (fun e => h5 (by injection e with e1 e2 e3 e4 e5; rw [e5])))
            clear HX HR
            go_enter Try.func31, Try.ntmps31
            go_wp2_with fail
            go_ret
            exact ⟨ret_bool HE.out.symm, hbo⟩
          case pos =>
            have g5 : ((L.length : Int) != L2.length) = false := by simp [h5]
            have Hh5 := Lib.hid h5
            clear h5
            have HR2 := Lib.hid (show r = decide (L = L2) by have h1 := Hh1.out; have h2 := Hh2.out; have h4 := Hh4.out; rw [HR.out]; subst h1 h2 h4; by_cases e : L = L2 <;> simp [e])
            have HL := Hh5
            rw [← Hh5.out] at y4
            have HB2 := Lib.hid (show ∀ wx, Below w.heap.size w wx → AtL wx 4 acc a2 L2 from fun wx h => HB.out.below h)
            have HA2 := Lib.hid (show ∀ wx, Below w.heap.size w wx → AtL wx 4 acc a L from fun wx h => HA.out.below h)
            rw [← Hh5.out] at HX hbo ⊢
            clear HR HA HB
            go_enter Try.func31, Try.ntmps31
            go_wp2_with fail
            generalize hwo : (w.alloc _).alloc _ = wo at hbo HX x0 x1 x2 x3 x4 y0 y1 y2 y3 y4 ⊢
            clear x0 x1 x2 x3 x4 y0 y1 y2 y3 y4 hwo
            go_loopw [5] (fun i wr => ∃ k : Nat, k ≤ L.length ∧ i = .int .i64 k ∧ Hid (L.take k = L2.take k) ∧ Hid (Below wo.heap.size wo wr)) (fun i _ => L.length - (intOf i).toNat)
            case atStart => exact ⟨0, by omega, rfl, rfl, Below.refl _ _⟩
            case round =>
              obtain ⟨k, hk, rfl, HT, HBW⟩ := hrel
              have x4 := cell_of (blk_keep HX.out.1 HBW.out) 4 _ rfl
              have y4 := cell_of (blk_keep HX.out.2 HBW.out) 4 _ rfl
              have hbw := bt hbo HBW.out (Nat.le_refl _)
              by_cases hlt : k < L.length
              · have hlt2 : k < L2.length := by rw [← HL.out]; exact hlt
                obtain ⟨bx, ox, rfl, hcx⟩ := (HA2.out _ hbw) k _ (getE hlt)
                obtain ⟨b_, oy, rfl, hcy⟩ := (HB2.out _ hbw) k _ (getE hlt2)
                have HTX := Lib.hid (show L.take (k + 1) = L.take k ++ [L[k]] from List.take_succ_eq_append_getElem hlt)
                have HTY := Lib.hid (show L2.take (k + 1) = L2.take k ++ [L2[k]] from List.take_succ_eq_append_getElem hlt2)
                have HNE := Lib.hid (show L[k] ≠ L2[k] → L ≠ L2 from fun h e => h (by subst e; rfl))
                have q0x : wr.cell? ⟨bx, ox + k * 4, none⟩ = some (.string L[k].nm) := hcx 0 _ rfl
                have q1x : wr.cell? ⟨bx, ox + k * 4 + 1, none⟩ = some (.bool L[k].cl) := hcx 1 _ rfl
                have q2x : wr.cell? ⟨bx, ox + k * 4 + 2, none⟩ = some (.int .i64 L[k].lim) := hcx 2 _ rfl
                have q3x : wr.cell? ⟨bx, ox + k * 4 + 3, none⟩ = some (.int .i64 L[k].us) := hcx 3 _ rfl
                have q0y : wr.cell? ⟨b_, oy + k * 4, none⟩ = some (.string L2[k].nm) := hcy 0 _ rfl
                have q1y : wr.cell? ⟨b_, oy + k * 4 + 1, none⟩ = some (.bool L2[k].cl) := hcy 1 _ rfl
                have q2y : wr.cell? ⟨b_, oy + k * 4 + 2, none⟩ = some (.int .i64 L2[k].lim) := hcy 2 _ rfl
                have q3y : wr.cell? ⟨b_, oy + k * 4 + 3, none⟩ = some (.int .i64 L2[k].us) := hcy 3 _ rfl
                clear hcx hcy
                generalize L[k] = x at *
                generalize L2[k] = y at *
                clear hlt2
                have k0 : (0 : Int) ≤ k := by omega
                have k1 : (k : Int) < L.length := by omega
                have hgd := guard_ac
                by_cases hxy : x = y
                · have hr := fun w => neq_ac x y false (by simp [hxy]) w
                  have HT2 : Hid (L.take (k + 1) = L2.take (k + 1)) := by unfold Hid; rw [HTX.out, HTY.out, HT.out, hxy]
                  clear hxy HTX HTY HNE
                  go_wp2_with fail
                  go_quiet (fail)
                  go_wp2
                  go_roundw
                  case rel => exact ⟨k + 1, by omega, by go_num, HT2, below_drewN HBW.out _⟩
                  case measure => simp [intOf]; omega
                · have hr := fun w => neq_ac x y true (by simp [hxy]) w
                  have HE := Lib.hid (show r = false by rw [HR2.out]; exact decide_eq_false (HNE.out hxy))
                  clear hxy HTX HTY HNE
                  go_wp2_with fail
                  go_quiet (fail)
                  go_wp2
                  go_ret
                  exact ⟨ret_bool HE.out.symm, below_drewN hbw _⟩
              · have HE : Hid (r = true) := by
                  have := HT.out
                  rw [List.take_of_length_le (by omega), List.take_of_length_le (by rw [← HL.out]; omega)] at this
                  exact HR2.out.trans (decide_eq_true this)
                go_wp2
                go_ret
                exact ⟨ret_bool HE.out.symm, hbw⟩

theorem fst_take (xs : List P) (k : Nat) : (fst xs).take k = fst (xs.take k) := by simp [fst, List.map_take]
set_option maxRecDepth 100000 in
set_option maxHeartbeats 4000000 in
theorem same_any (a a2 : Option Addr) (c c2 : Nat) (xs ys : List P) (w : World) (hn : xs.length ≤ 1000) (hZ : ∀ x ∈ xs, x.1.ac.length ≤ 1000) (hA : AtM w a xs) (hB : AtM w a2 ys) :
    Calls Try.prog 27 #[.agg #[.slice a xs.length c], .agg #[.slice a2 ys.length c2]] w fun e w' => e = .returned (.bool (decide (fst xs = fst ys))) ∧ Below w.heap.size w w' := by
  have HA := Lib.hid hA
  have HB := Lib.hid hB
  have HZ := Lib.hid hZ
  have hbo : Below w.heap.size w ((w.alloc (.cells #[.slice a xs.length c] 24)).alloc (.cells #[.slice a2 ys.length c2] 24)) := ((Below.refl _ _).alloc (Nat.le_refl _) _).alloc (by simp) _
  have HX := Lib.hid (blk_two w (.cells #[.slice a xs.length c] 24) (.cells #[.slice a2 ys.length c2] 24))
  obtain ⟨r, hr⟩ : ∃ r, r = decide (fst xs = fst ys) := ⟨_, rfl⟩
  rw [← hr]
  have HR := Lib.hid hr
  clear hr hA hB hZ
  have x0 := cell_of HX.out.1 0 _ rfl
  have y0 := cell_of HX.out.2 0 _ rfl
  by_cases h5 : xs.length = ys.length
  case neg =>
    have g5 : ((xs.length : Int) != ys.length) = true := by simp; omega
    have HE := Lib.hid (show r = false by rw [HR.out]; exact decide_eq_false (fun e => h5 (by rw [← fst_len, e, fst_len])))
    clear HX HR
    go_enter Try.func27, Try.ntmps27
    go_wp2_with fail
    go_ret
    exact ⟨ret_bool HE.out.symm, hbo⟩
  case pos =>
    have g5 : ((xs.length : Int) != ys.length) = false := by simp [h5]
    have HL := Lib.hid h5
    rw [← h5] at y0 HX hbo ⊢
    clear h5
    go_enter Try.func27, Try.ntmps27
    go_wp2_with fail
    generalize hwo : (w.alloc _).alloc _ = wo at hbo HX x0 y0 ⊢
    clear x0 y0 hwo
    go_loopw [5] (fun i wr => ∃ k : Nat, k ≤ xs.length ∧ i = .int .i64 k ∧ Hid ((fst xs).take k = (fst ys).take k) ∧ Hid (Below wo.heap.size wo wr)) (fun i _ => xs.length - (intOf i).toNat)
    case atStart => exact ⟨0, by omega, rfl, rfl, Below.refl _ _⟩
    case round =>
      obtain ⟨k, hk, rfl, HT, HBW⟩ := hrel
      have x0 := cell_of (blk_keep HX.out.1 HBW.out) 0 _ rfl
      have y0 := cell_of (blk_keep HX.out.2 HBW.out) 0 _ rfl
      have hbw := bt hbo HBW.out (Nat.le_refl _)
      by_cases hlt : k < xs.length
      · have hlt2 : k < ys.length := by rw [← HL.out]; exact hlt
        obtain ⟨b, off, rfl, q0, q1, q2, q3, q4⟩ := at_p (HA.out.below hbw).ms k hlt
        obtain ⟨b2, off2, rfl, p0, p1, p2, p3, p4⟩ := at_p (HB.out.below hbw).ms k hlt2
        have HTX := Lib.hid (take_succ_p xs k hlt)
        have HTY := Lib.hid (take_succ_p ys k hlt2)
        have HNE := Lib.hid (show (gp xs k).1 ≠ (gp ys k).1 → fst xs ≠ fst ys from fun h e => h (by rw [← gm_fst, e, gm_fst]))
        have HS := Lib.hid (fun wx (h : Below w.heap.size w wx) => samem_any (gp xs k) (gp ys k) wx (HZ.out _ (gp_mem xs k hlt)) ((HA.out.below h).ac _ (gp_mem xs k hlt)) ((HB.out.below h).ac _ (gp_mem ys k hlt2)))
        generalize gp xs k = x at *
        generalize gp ys k = y at *
        have k0 : (0 : Int) ≤ k := by omega
        have k1 : (k : Int) < xs.length := by omega
        have hbwd := hbw.drew
        obtain ⟨v, hv⟩ : ∃ v, v = decide (x.1 = y.1) := ⟨_, rfl⟩
        rw [← hv] at HS
        have HV := Lib.hid hv
        have HK := Lib.hid (show ∀ wx, Below wr.heap.size wr wx → wx.cell? ⟨w.heap.size, 0, none⟩ = some (.slice (some ⟨b, off, none⟩) xs.length c) ∧ wx.cell? ⟨w.heap.size + 1, 0, none⟩ = some (.slice (some ⟨b2, off2, none⟩) xs.length c2) ∧ wx.cell? ⟨b, off + k * 5, none⟩ = some (.string x.1.nm) ∧ wx.cell? ⟨b, off + k * 5 + 1, none⟩ = some (.int .u8 x.1.ro) ∧ wx.cell? ⟨b, off + k * 5 + 2, none⟩ = some (.bool x.1.su) ∧ wx.cell? ⟨b, off + k * 5 + 3, none⟩ = some (.int .i64 x.1.lim) ∧ wx.cell? ⟨b, off + k * 5 + 4, none⟩ = some (.slice x.2.1 x.1.ac.length x.2.2) ∧ wx.cell? ⟨b2, off2 + k * 5, none⟩ = some (.string y.1.nm) ∧ wx.cell? ⟨b2, off2 + k * 5 + 1, none⟩ = some (.int .u8 y.1.ro) ∧ wx.cell? ⟨b2, off2 + k * 5 + 2, none⟩ = some (.bool y.1.su) ∧ wx.cell? ⟨b2, off2 + k * 5 + 3, none⟩ = some (.int .i64 y.1.lim) ∧ wx.cell? ⟨b2, off2 + k * 5 + 4, none⟩ = some (.slice y.2.1 y.1.ac.length y.2.2) from fun wx h => ⟨keep x0 h, keep y0 h, keep q0 h, keep q1 h, keep q2 h, keep q3 h, keep q4 h, keep p0 h, keep p1 h, keep p2 h, keep p3 h, keep p4 h⟩)
        have k2 : Below wr.heap.size wr wr := Below.refl _ _
        have kd := k2.drew
        have HBW2 := HBW
        clear hv hlt2 hbwd
        go_wp2_with fail
        go_region_held3 (fun wx => wx.cell? ⟨w.heap.size, 0, none⟩ = some (.slice (some ⟨b, off, none⟩) xs.length c) ∧ wx.cell? ⟨w.heap.size + 1, 0, none⟩ = some (.slice (some ⟨b2, off2, none⟩) xs.length c2) ∧ wx.cell? ⟨b, off + k * 5, none⟩ = some (.string x.1.nm) ∧ wx.cell? ⟨b, off + k * 5 + 1, none⟩ = some (.int .u8 x.1.ro) ∧ wx.cell? ⟨b, off + k * 5 + 2, none⟩ = some (.bool x.1.su) ∧ wx.cell? ⟨b, off + k * 5 + 3, none⟩ = some (.int .i64 x.1.lim) ∧ wx.cell? ⟨b, off + k * 5 + 4, none⟩ = some (.slice x.2.1 x.1.ac.length x.2.2) ∧ wx.cell? ⟨b2, off2 + k * 5, none⟩ = some (.string y.1.nm) ∧ wx.cell? ⟨b2, off2 + k * 5 + 1, none⟩ = some (.int .u8 y.1.ro) ∧ wx.cell? ⟨b2, off2 + k * 5 + 2, none⟩ = some (.bool y.1.su) ∧ wx.cell? ⟨b2, off2 + k * 5 + 3, none⟩ = some (.int .i64 y.1.lim) ∧ wx.cell? ⟨b2, off2 + k * 5 + 4, none⟩ = some (.slice y.2.1 y.1.ac.length y.2.2))
          (first | exact HK.out _ (by assumption) | exact HK.out _ (Below.drew (by assumption)) | go_keep)
          ((go_at_call 31; refine (HS.out _ (bt hbw (by first | assumption | exact Below.drew (by assumption)) (Nat.le_refl _))).mono ?_; rintro e w3 ⟨rfl, hb3⟩; have k3 : Below wr.heap.size wr w3 := bt (by first | assumption | exact Below.drew (by assumption)) hb3 (Nat.le_refl _)))
        all_goals
          cases v
          · have HE := Lib.hid (show r = false by rw [HR.out]; exact decide_eq_false (HNE.out (of_decide_eq_false HV.out.symm)))
            go_wp2
            go_ret
            exact ⟨ret_bool HE.out.symm, bt hbw (by first | exact k3 | exact k3.drew) (Nat.le_refl _)⟩
          · have HT2 : Hid ((fst xs).take (k + 1) = (fst ys).take (k + 1)) := by unfold Hid; rw [HTX.out, HTY.out, HT.out, of_decide_eq_true HV.out.symm]
            go_wp2
            go_roundw
            case rel => exact ⟨k + 1, by omega, by go_num, HT2, bt HBW.out (by first | exact k3 | exact k3.drew) (Nat.le_refl _)⟩
            case measure => simp [intOf]; omega
      · have HE : Hid (r = true) := by
          have := HT.out
          rw [List.take_of_length_le (by rw [fst_len]; omega), List.take_of_length_le (by rw [fst_len, ← HL.out]; omega)] at this
          exact HR.out.trans (decide_eq_true this)
        go_wp2
        go_ret
        exact ⟨ret_bool HE.out.symm, hbw⟩
end Go.Proofs.Ytoemjpfoddeinaa.Mb
