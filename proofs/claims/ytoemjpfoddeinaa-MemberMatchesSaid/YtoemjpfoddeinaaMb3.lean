/-
  Member: the walks of exposure and valid.
-/
import Derived.Test.YtoemjpfoddeinaaMb2
namespace Go.Proofs.Ytoemjpfoddeinaa.Mb
open Go.RowKit Go.Proofs.Ytoemjpfoddeinaa Go.Proofs.Ytoemjpfoddeinaa.Ls Go.Proofs.Ytoemjpfoddeinaa.Kb
open Go.Proofs.Ytoemjpfoddeinaa.Nm hiding ret_bool ret_int

/-- what a Go value of these types may be -/
def i64 (n : Int) : Prop := -9223372036854775808 ≤ n ∧ n ≤ 9223372036854775807
structure OkA (a : Ac) : Prop where
  nm : a.nm.size ≤ maxLen
  lim : i64 a.lim
  us : i64 a.us
structure OkM (m : Me) : Prop where
  nm : m.nm.size ≤ maxLen
  ro : 0 ≤ m.ro ∧ m.ro ≤ 255
  lim : i64 m.lim
  len : m.ac.length ≤ 1000
  ac : ∀ a ∈ m.ac, OkA a
theorem house_list : house.toList = [104, 111, 117, 115, 101] := by rw [ByteArray.toList_eq]; rfl
theorem hb (b : Bool) : b = true ∨ b = false := by cases b <;> simp
theorem name_q (s : ByteArray) (w : World) (hs : s.size ≤ maxLen) : Calls Try.prog 52 #[.string s] w fun e w' => e = .returned (.bool (nm s)) ∧ w' = w :=
  (name_any s w hs).mono fun _ _ h => ⟨h.1, h.2.symm⟩
theorem take_succ_a (L : List Ac) (k : Nat) (h : k < L.length) : L.take (k + 1) = L.take k ++ [ga L k] := by
  rw [List.take_add_one, List.getElem?_eq_getElem h]
  unfold ga
  rw [List.getD_eq_getElem?_getD, List.getElem?_eq_getElem h]
  rfl
theorem ex_take (L : List Ac) (B : Int) (_hB : 0 ≤ B) (hU : ∀ y ∈ L, -B ≤ y.us ∧ y.us ≤ B) (k : Nat) (h : k ≤ L.length) : 0 ≤ ex (L.take k) ∧ ex (L.take k) ≤ k * B := by
  induction k with
  | zero => simp [ex]
  | succ k ih =>
    have h1 := ih (by omega)
    have h2 := hU _ (ga_mem L k (by omega))
    rw [take_succ_a L k (by omega), ex_snoc]
    have h3 : ab (ga L k).us ≤ B := by unfold ab; omega
    have h4 := ab_nonneg (ga L k).us
    have h5 : ((k + 1 : Nat) : Int) * B = k * B + B := by rw [Int.natCast_add, Int.add_mul]; simp
    omega

set_option maxRecDepth 100000 in
set_option maxHeartbeats 4000000 in
theorem exposure_any (x : P) (w : World) (hn : x.1.ac.length ≤ 1000) (hA : AtL w 4 acc x.2.1 x.1.ac) (hU : ∀ y ∈ x.1.ac, -4503599627370496 ≤ y.us ∧ y.us ≤ 4503599627370496) :
    Calls Try.prog 38 #[.agg #[.string x.1.nm, .int .u8 x.1.ro, .bool x.1.su, .int .i64 x.1.lim, .slice x.2.1 x.1.ac.length x.2.2]] w fun e w' => e = .returned (.int .i64 (ex x.1.ac)) ∧ Below w.heap.size w w' := by
  obtain ⟨⟨N, ro, su, lim, L⟩, a, c⟩ := x
  dsimp only at *
  have HA := Lib.hid hA
  have HE := Lib.hid (fun k h => ex_take L _ (by omega) hU k h)
  have HU := Lib.hid hU
  have hbo : Below w.heap.size w (w.alloc (.cells #[.string N, .int .u8 ro, .bool su, .int .i64 lim, .slice a L.length c] 30)) := (Below.refl _ _).alloc (Nat.le_refl _) _
  clear hA hU
  go_enter Try.func38, Try.ntmps38
  go_wp2_with fail
  go_loopw [3, 5, 9] (fun s _ i wr => ∃ k : Nat, k ≤ L.length ∧ s = .int .i64 (ex (L.take k)) ∧ i = .int .i64 k ∧ Below w.heap.size w wr) (fun _ _ i _ => L.length - (intOf i).toNat)
  case atStart => exact ⟨0, by omega, rfl, rfl, hbo⟩
  case round =>
    obtain ⟨k, hk, rfl, rfl, hbw⟩ := hrel
    by_cases hlt : k < L.length
    · obtain ⟨b, off, rfl, q0, q1, q2, q3⟩ := at_a (HA.out.below hbw) k hlt
      have e1 := HE.out k (by omega)
      have e2 := HE.out (k + 1) (by omega)
      have hu := HU.out _ (ga_mem L k hlt)
      have hs : ex (L.take (k + 1)) = ex (L.take k) + ab (ga L k).us := by rw [take_succ_a L k hlt, ex_snoc]
      generalize ga L k = y at *
      generalize ex (L.take k) = S at *
      have HS := Lib.hid hs
      rw [hs] at e2
      have hw : IntKind.i64.wrap (S + ab y.us) = S + ab y.us := IntWalk.i64_in _ (by omega)
      have hbz : Below w.heap.size w (wr.alloc (.cells #[.string y.nm, .bool y.cl, .int .i64 y.lim, .int .i64 y.us] 32)) := hbw.alloc hbw.size _
      have hu2 : -9223372036854775807 ≤ y.us ∧ y.us ≤ 9223372036854775807 := by omega
      clear e1 e2 hu hs
      go_wp2_with fail
      refine (abs_any y.us _ hu2).mono ?_
      rintro e w2 ⟨rfl, rfl⟩
      go_wp2
      go_roundw
      case rel => exact ⟨k + 1, by omega, by rw [HS.out], by go_num, hbz⟩
      case measure => simp [intOf]; omega
    · obtain rfl : k = L.length := by omega
      have HL := Lib.hid (show ex (L.take L.length) = ex L by rw [List.take_length])
      go_wp2
      go_ret
      exact ⟨by rw [← HL.out]; rfl, hbw⟩

theorem val_of (m : Me) : val m = (nm m.nm && !decide (m.nm = house) && (m.ro == 1 || m.ro == 2) && mon m.lim && decide (m.ac.length ≤ 16) && srt (m.ac.map Ac.nm) && m.ac.all (okA m.ro) && decide (ex m.ac ≤ m.lim)) := rfl
theorem okA_bound {ro : Int} {a : Ac} (h : okA ro a = true) : (0 ≤ a.lim ∧ a.lim ≤ 1125899906842624) ∧ -1125899906842624 ≤ a.us ∧ a.us ≤ 1125899906842624 := by
  unfold okA mon at h
  simp at h
  omega
theorem all_okA {ro : Int} {L : List Ac} (h : ∀ i, i < L.length → okA ro (ga L i) = true) : L.all (okA ro) = true := by
  rw [List.all_eq_true]
  intro x hx
  obtain ⟨i, hi, rfl⟩ := List.mem_iff_getElem.1 hx
  have := h i hi
  unfold ga at this
  rw [List.getD_eq_getElem?_getD, List.getElem?_eq_getElem hi] at this
  exact this
theorem not_all_okA {ro : Int} {L : List Ac} {i : Nat} (hi : i < L.length) (h : okA ro (ga L i) = false) : L.all (okA ro) = false := by
  cases e : L.all (okA ro)
  · rfl
  · rw [List.all_eq_true] at e
    rw [e _ (ga_mem L i hi)] at h
    cases h

set_option maxRecDepth 100000 in
set_option maxHeartbeats 4000000 in
theorem valid_any (x : P) (w : World) (hZ : OkM x.1) (hA : AtL w 4 acc x.2.1 x.1.ac) :
    Calls Try.prog 39 #[.agg #[.string x.1.nm, .int .u8 x.1.ro, .bool x.1.su, .int .i64 x.1.lim, .slice x.2.1 x.1.ac.length x.2.2]] w fun e w' => e = .returned (.bool (val x.1)) ∧ Below w.heap.size w w' := by
  have HV := Lib.hid (val_of x.1)
  generalize val x.1 = V at HV ⊢
  obtain ⟨⟨N, ro, su, lim, L⟩, a, c⟩ := x
  have hnm := hZ.nm
  have hn := hZ.len
  have HZA := Lib.hid hZ.ac
  clear hZ
  dsimp only at *
  have HA := Lib.hid hA
  have hbo : Below w.heap.size w (w.alloc (.cells #[.string N, .int .u8 ro, .bool su, .int .i64 lim, .slice a L.length c] 30)) := (Below.refl _ _).alloc (Nat.le_refl _) _
  have HX := Lib.hid (blk_new w (.cells #[.string N, .int .u8 ro, .bool su, .int .i64 lim, .slice a L.length c] 30))
  clear hA
  rcases hb (nm N) with h1 | h1
  case inr =>
    rw [h1] at HV
    go_enter Try.func39, Try.ntmps39
    go_wp2_with fail
    refine (name_q N _ hnm).mono ?_
    rintro e w1 ⟨rfl, rfl⟩
    rw [h1]
    clear h1
    go_wp2_with fail
    go_ret
    exact ⟨ret_bool (by rw [HV.out]; simp), hbo⟩
  by_cases h2 : N = house
  case pos =>
    have HVF := Lib.hid (show V = false by rw [HV.out, h2]; simp)
    have h2' : (N.toList == [104, 111, 117, 115, 101]) = true := by rw [h2, house_list]; rfl
    have h2'' : N.toList = [104, 111, 117, 115, 101] := by rw [h2, house_list]
    clear h2 HV
    go_enter Try.func39, Try.ntmps39
    go_wp2_with fail
    refine (name_q N _ hnm).mono ?_
    rintro e w1 ⟨rfl, rfl⟩
    rw [h1]
    clear h1
    go_wp2_with fail
    go_ret
    exact ⟨ret_bool (by rw [HVF.out]), hbo⟩
  have h2' : (N.toList == [104, 111, 117, 115, 101]) = false := by
    have := eq_no h2
    rw [house_list] at this
    exact this
  have HH := Lib.hid (show (!decide (N = house)) = true by rw [decide_eq_false h2]; rfl)
  clear h2
  by_cases h3 : ro = 1 ∨ ro = 2
  case neg =>
    have r1 : (ro != 1) = true := by simp; omega
    have r2 : (ro != 2) = true := by simp; omega
    have r3 : ¬ ro = 1 := by omega
    have r4 : ¬ ro = 2 := by omega
    have HVF := Lib.hid (show V = false by
      rw [HV.out, show (ro == 1) = false by simp; omega, show (ro == 2) = false by simp; omega]
      simp)
    clear h3 HV HH
    go_enter Try.func39, Try.ntmps39
    go_wp2_with fail
    refine (name_q N _ hnm).mono ?_
    rintro e w1 ⟨rfl, rfl⟩
    rw [h1]
    clear h1
    go_wp2_with fail
    go_ret
    exact ⟨ret_bool (by rw [HVF.out]), hbo⟩
  have HR := Lib.hid (show (ro == 1 || ro == 2) = true by rcases h3 with rfl | rfl <;> rfl)
  have HV1 := Lib.hid (show V = (mon lim && decide (L.length ≤ 16) && srt (L.map Ac.nm) && L.all (okA ro) && decide (ex L ≤ lim)) by
    rw [HV.out, h1, HH.out, HR.out]; simp)
  obtain ⟨b1, hb1⟩ : ∃ b1, b1 = (ro != 1) := ⟨_, rfl⟩
  obtain ⟨b2, hb2⟩ : ∃ b2, b2 = (ro == 2) := ⟨_, rfl⟩
  have r1 := hb1.symm
  have r2 := hb2.symm
  have r3 : (ro != 2) = !b2 := by rw [← r2]; rfl
  have HBB := Lib.hid (show b1 = b2 by rcases h3 with rfl | rfl <;> (rw [hb1, hb2]; rfl))
  clear hb1 hb2 h3 HV HH HR
  obtain rfl := HBB.out
  clear HBB
  rcases hb (mon lim) with h4 | h4
  case inr =>
    have HVF := Lib.hid (show V = false by rw [HV1.out, h4]; simp)
    clear HV1
    cases b1
    all_goals
      go_enter Try.func39, Try.ntmps39
      go_wp2_with fail
      refine (name_q N _ hnm).mono ?_
      rintro e w1 ⟨rfl, rfl⟩
      rw [h1]
      go_wp2_with fail
      refine (money_any lim _).mono ?_
      rintro e w1 ⟨rfl, rfl⟩
      rw [h4]
      go_wp2_with fail
      go_ret
      exact ⟨ret_bool (by rw [HVF.out]), hbo⟩
  have HV2 := Lib.hid (show V = (decide (L.length ≤ 16) && srt (L.map Ac.nm) && L.all (okA ro) && decide (ex L ≤ lim)) by rw [HV1.out, h4]; simp)
  have HC0 := Lib.hid (show ∀ wx, Below (w.alloc (.cells #[.string N, .int .u8 ro, .bool su, .int .i64 lim, .slice a L.length c] 30)).heap.size (w.alloc (.cells #[.string N, .int .u8 ro, .bool su, .int .i64 lim, .slice a L.length c] 30)) wx → wx.heap[w.heap.size]? = some (.cells #[.string N, .int .u8 ro, .bool su, .int .i64 lim, .slice a L.length c] 30 (0, 0)) from fun wx h => blk_keep HX.out h)
  clear HV1 HX
  rcases Nat.lt_or_ge 16 L.length with h5 | h5
  case inl =>
    have HVF := Lib.hid (show V = false by rw [HV2.out, decide_eq_false (by omega)]; simp)
    have h5' : (16 : Int) < L.length := by omega
    clear HV2 HC0
    cases b1
    all_goals
      go_enter Try.func39, Try.ntmps39
      go_wp2_with fail
      refine (name_q N _ hnm).mono ?_
      rintro e w1 ⟨rfl, rfl⟩
      rw [h1]
      go_wp2_with fail
      refine (money_any lim _).mono ?_
      rintro e w1 ⟨rfl, rfl⟩
      rw [h4]
      go_wp2_with fail
      go_ret
      exact ⟨ret_bool (by rw [HVF.out]), hbo⟩
  have h5' : ¬ (16 : Int) < L.length := by omega
  have HO := Lib.hid (fun wx (h : AtL wx 4 acc a L) => ordered_a a c L wx hn h)
  rcases hb (srt (L.map Ac.nm)) with h6 | h6
  case inr =>
    have HVF := Lib.hid (show V = false by rw [HV2.out, h6]; simp)
    rw [h6] at HO
    clear HV2 HC0 h6
    cases b1
    all_goals
      go_enter Try.func39, Try.ntmps39
      go_wp2_with fail
      refine (name_q N _ hnm).mono ?_
      rintro e w1 ⟨rfl, rfl⟩
      rw [h1]
      go_wp2_with fail
      refine (money_any lim _).mono ?_
      rintro e w1 ⟨rfl, rfl⟩
      rw [h4]
      go_wp2_with fail
      refine (HO.out _ (HA.out.below hbo)).mono ?_
      rintro e w2 ⟨rfl, hb2⟩
      have hb2 := bt hbo hb2 (Nat.le_refl _)
      go_wp2_with fail
      go_ret
      exact ⟨ret_bool (by rw [HVF.out]), hb2⟩
  have HV3 := Lib.hid (show V = (L.all (okA ro) && decide (ex L ≤ lim)) by rw [HV2.out, h6, decide_eq_true h5]; simp)
  rw [h6] at HO
  clear HV2 h6
  cases b1
  all_goals
    go_enter Try.func39, Try.ntmps39
    go_wp2_with fail
    refine (name_q N _ hnm).mono ?_
    rintro e w1 ⟨rfl, rfl⟩
    rw [h1]
    go_wp2_with fail
    refine (money_any lim _).mono ?_
    rintro e w1 ⟨rfl, rfl⟩
    rw [h4]
    go_wp2_with fail
    generalize hwo : w.alloc (.cells #[.string N, .int .u8 ro, .bool su, .int .i64 lim, .slice a L.length c] 30) = wo at hbo HC0 ⊢
    clear hwo
    refine (HO.out wo (HA.out.below hbo)).mono ?_
    rintro e w2 ⟨rfl, hb2⟩
    have HC2 := Lib.hid (show ∀ wx, Below w2.heap.size w2 wx → wx.heap[w.heap.size]? = some (.cells #[.string N, .int .u8 ro, .bool su, .int .i64 lim, .slice a L.length c] 30 (0, 0)) from fun wx h => HC0.out wx (bt hb2 h (Nat.le_refl _)))
    have c2 := Lib.hid (bt hbo hb2 (Nat.le_refl _))
    have hx2 := HC2.out w2 (Below.refl _ _)
    have x4 := cell_of hx2 4 _ rfl
    clear hb2 hbo HC0 HO hx2
    go_wp2_with fail
    go_loopw [4, 43] (fun _ i wr => ∃ k : Nat, k ≤ L.length ∧ i = .int .i64 k ∧ Hid (∀ i, i < k → okA ro (ga L i) = true) ∧ Hid (Below w2.heap.size w2 wr)) (fun _ i _ => L.length - (intOf i).toNat)
    case atStart => exact ⟨0, by omega, rfl, fun i hi => by omega, Below.refl _ _⟩
    case round =>
      clear x4
      obtain ⟨k, hk, rfl, HG, HBW⟩ := hrel
      by_cases hlt : k < L.length
      · obtain ⟨b, off, rfl, q0, q1, q2, q3⟩ := at_a (HA.out.below (bt c2.out HBW.out (Nat.le_refl _))) k hlt
        have HOK := Lib.hid (HZA.out _ (ga_mem L k hlt))
        have HNO := Lib.hid (show okA ro (ga L k) = false → V = false from fun h => by rw [HV3.out, not_all_okA hlt h]; rfl)
        have HGS := Lib.hid (show okA ro (ga L k) = true → ∀ i, i < k + 1 → okA ro (ga L i) = true from fun h i hi => by
          rcases Nat.lt_or_ge i k with g | g
          · exact HG.out i g
          · obtain rfl : i = k := by omega
            exact h)
        have hzz := blk_lt (HC2.out wr HBW.out)
        have HBZ := Lib.hid (show Below w2.heap.size w2 (wr.alloc (.cells #[.string (ga L k).nm, .bool (ga L k).cl, .int .i64 (ga L k).lim, .int .i64 (ga L k).us] 32)) from HBW.out.alloc HBW.out.size _)
        have y1 := cell_of (HC2.out wr HBW.out) 1 _ rfl
        clear HG HBW HV3
        generalize ga L k = y at *
        obtain ⟨yn, ycl, ylim, yus⟩ := y
        dsimp only at *
        have HE := Lib.hid (show okA ro ⟨yn, ycl, ylim, yus⟩ = (nm yn && !(ycl && (ro == 2)) && mon ylim && !decide (yus < -ylim) && !decide (ylim < yus)) from rfl)
        have hyn := HOK.out.nm
        dsimp only at hyn
        rcases hb (nm yn) with g1 | g1
        case inr =>
          have HVF := Lib.hid (HNO.out (by rw [HE.out, g1]; simp))
          go_wp2_with fail
          refine (name_q yn _ hyn).mono ?_
          rintro e w3 ⟨rfl, rfl⟩
          rw [g1]
          go_wp2_with fail
          go_ret
          exact ⟨ret_bool (by rw [HVF.out]), bt c2.out HBZ.out (Nat.le_refl _)⟩
        rcases hb (ycl && (ro == 2)) with g2 | g2
        case inl =>
          have HVF := Lib.hid (HNO.out (by rw [HE.out, g1, g2]; simp))
          simp only [Bool.and_eq_true] at g2
          obtain ⟨rfl, g3⟩ := g2
          first
            | (exfalso; rw [r2] at g3; cases g3; done)
            | (clear g3
               go_wp2_with fail
               refine (name_q yn _ hyn).mono ?_
               rintro e w3 ⟨rfl, rfl⟩
               rw [g1]
               go_wp2_with fail
               go_ret
               exact ⟨ret_bool (by rw [HVF.out]), bt c2.out HBZ.out (Nat.le_refl _)⟩)
        have HE2 := Lib.hid (show okA ro ⟨yn, ycl, ylim, yus⟩ = (mon ylim && !decide (yus < -ylim) && !decide (ylim < yus)) by rw [HE.out, g1, g2]; simp)
        clear HE
        cases ycl
        all_goals try (exfalso; rw [r2] at g2; cases g2; done)
        all_goals
          clear g2
          rcases hb (mon ylim) with g4 | g4
          case inr =>
            have HVF := Lib.hid (HNO.out (by rw [HE2.out, g4]; simp))
            go_wp2_with fail
            refine (name_q yn _ hyn).mono ?_
            rintro e w3 ⟨rfl, rfl⟩
            rw [g1]
            go_wp2_with fail
            refine (money_any ylim _).mono ?_
            rintro e w3 ⟨rfl, rfl⟩
            rw [g4]
            go_wp2_with fail
            go_ret
            exact ⟨ret_bool (by rw [HVF.out]), bt c2.out HBZ.out (Nat.le_refl _)⟩
          have hbd : 0 ≤ ylim ∧ ylim ≤ 1125899906842624 := by unfold mon at g4; simp at g4; omega
          have hw : IntKind.i64.wrap (-ylim) = -ylim := IntWalk.i64_in _ (by omega)
          by_cases g5 : yus < -ylim
          case pos =>
            have HVF := Lib.hid (HNO.out (by rw [HE2.out, decide_eq_true g5]; simp))
            clear hbd
            go_wp2_with fail
            refine (name_q yn _ hyn).mono ?_
            rintro e w3 ⟨rfl, rfl⟩
            rw [g1]
            go_wp2_with fail
            refine (money_any ylim _).mono ?_
            rintro e w3 ⟨rfl, rfl⟩
            rw [g4]
            go_wp2_with fail
            go_ret
            exact ⟨ret_bool (by rw [HVF.out]), bt c2.out HBZ.out (Nat.le_refl _)⟩
          by_cases g6 : ylim < yus
          case pos =>
            have HVF := Lib.hid (HNO.out (by rw [HE2.out, decide_eq_true g6]; simp))
            clear hbd
            go_wp2_with fail
            refine (name_q yn _ hyn).mono ?_
            rintro e w3 ⟨rfl, rfl⟩
            rw [g1]
            go_wp2_with fail
            refine (money_any ylim _).mono ?_
            rintro e w3 ⟨rfl, rfl⟩
            rw [g4]
            go_wp2_with fail
            go_ret
            exact ⟨ret_bool (by rw [HVF.out]), bt c2.out HBZ.out (Nat.le_refl _)⟩
          have HG2 := Lib.hid (HGS.out (by rw [HE2.out, g4, decide_eq_false g5, decide_eq_false g6]; rfl))
          clear hbd HGS HNO HE2
          go_wp2_with fail
          refine (name_q yn _ hyn).mono ?_
          rintro e w3 ⟨rfl, rfl⟩
          rw [g1]
          go_wp2_with fail
          refine (money_any ylim _).mono ?_
          rintro e w3 ⟨rfl, rfl⟩
          rw [g4]
          go_wp2_with fail
          go_roundw
          case rel => exact ⟨k + 1, by omega, by go_num, HG2.out, HBZ⟩
          case measure => simp [intOf]; omega
      · have hk : k = L.length := by omega
        have HALL := Lib.hid (show L.all (okA ro) = true from all_okA fun i hi => HG.out i (by omega))
        have hU : ∀ y ∈ L, -4503599627370496 ≤ y.us ∧ y.us ≤ 4503599627370496 := fun y hy => by
          have := okA_bound (List.all_eq_true.1 HALL.out y hy)
          omega
        have hEX := fun (wx : World) (h : AtL wx 4 acc a L) => exposure_any ((⟨N, ro, su, lim, L⟩ : Me), (a, c)) wx hn h hU
        dsimp only at hEX
        have HEX := Lib.hid hEX
        have HVF := Lib.hid (show V = decide (ex L ≤ lim) by rw [HV3.out, HALL.out]; rfl)
        have HAW := Lib.hid (HA.out.below (bt c2.out HBW.out (Nat.le_refl _)))
        have HB := Lib.hid (show ∀ wx, Below wr.heap.size wr wx → wx.cell? ⟨w.heap.size, 0, none⟩ = some (.string N) ∧ wx.cell? ⟨w.heap.size, 1, none⟩ = some (.int .u8 ro) ∧ wx.cell? ⟨w.heap.size, 2, none⟩ = some (.bool su) ∧ wx.cell? ⟨w.heap.size, 3, none⟩ = some (.int .i64 lim) ∧ wx.cell? ⟨w.heap.size, 4, none⟩ = some (.slice a L.length c) from
          fun wx h => have hx := HC2.out wx (bt HBW.out h (Nat.le_refl _)); ⟨cell_of hx 0 _ rfl, cell_of hx 1 _ rfl, cell_of hx 2 _ rfl, cell_of hx 3 _ rfl, cell_of hx 4 _ rfl⟩)
        have HBW2 := Lib.hid (bt c2.out HBW.out (Nat.le_refl _))
        have k0 : Below wr.heap.size wr wr := Below.refl _ _
        have kd := k0.drew
        clear hU hEX HALL HG HV3 HBW HC2
        have hlt' : ¬ (k : Int) < L.length := by omega
        go_wp2_with fail
        go_region_held3 (fun wx => wx.cell? ⟨w.heap.size, 0, none⟩ = some (.string N) ∧ wx.cell? ⟨w.heap.size, 1, none⟩ = some (.int .u8 ro) ∧ wx.cell? ⟨w.heap.size, 2, none⟩ = some (.bool su) ∧ wx.cell? ⟨w.heap.size, 3, none⟩ = some (.int .i64 lim) ∧ wx.cell? ⟨w.heap.size, 4, none⟩ = some (.slice a L.length c))
          (first | exact HB.out _ (by assumption) | exact HB.out _ (Below.drew (by assumption)) | go_keep)
          ((go_at_call 38; refine (HEX.out _ (HAW.out.below (by first | assumption | exact Below.drew (by assumption)))).mono ?_; rintro e w5 ⟨rfl, hb5⟩; have k5 : Below wr.heap.size wr w5 := bt (by first | assumption | exact Below.drew (by assumption)) hb5 (Nat.le_refl _)))
        all_goals
          go_wp2
          go_ret
          exact ⟨ret_bool (by rw [HVF.out]), bt HBW2.out k5 (Nat.le_refl _)⟩
end Go.Proofs.Ytoemjpfoddeinaa.Mb
