/-
  Compress: the walks of Great, Same, SameInts, Gross and Net.
-/
import Derived.Test.YtpphiohppgphnaaCs3
import Derived.Laws.StructEq
namespace Go.Proofs.Ytpphiohppgphnaa.Cs
open Go.RowKit Go.Proofs.Ytpphiohppgphnaa Go.Proofs.Ytpphiohppgphnaa.Ls Go.Proofs.Ytpphiohppgphnaa.Kb Go.Proofs.Ytpphiohppgphnaa.Cz
open Go.Proofs.Ytpphiohppgphnaa.Nm hiding ret_bool ret_int hb'

theorem getE {α : Type} {xs : List α} {i : Nat} (h : i < xs.length) : xs[i]? = some xs[i] := List.getElem?_eq_getElem h
theorem tr_ext {x y : Tr} (h1 : x.fr = y.fr) (h2 : x.to_ = y.to_) (h3 : x.con = y.con) (h4 : x.amt = y.amt) : x = y := by
  cases x; cases y; simp_all
instance : DecidableEq Tr := fun x y => if h : x.fr = y.fr ∧ x.to_ = y.to_ ∧ x.con = y.con ∧ x.amt = y.amt then isTrue (tr_ext h.1 h.2.1 h.2.2.1 h.2.2.2) else isFalse (fun e => h (by subst e; exact ⟨rfl, rfl, rfl, rfl⟩))
theorem fields_tr : (Try.prog.fieldsOf 31).toList = [⟨"From", 9, 0, false, "", "", 0⟩, ⟨"To", 9, 1, false, "", "", 16⟩, ⟨"Contract", 9, 2, false, "", "", 32⟩, ⟨"Amount", 3, 3, false, "", "", 48⟩] := by kernel_rfl
theorem run_tr (x y : Tr) (w : World) : (Op.equalIn 10000 31 (.agg #[.string x.fr, .string x.to_, .string x.con, .int .i64 x.amt]) (.agg #[.string y.fr, .string y.to_, .string y.con, .int .i64 y.amt])).run Try.prog w = .ok (decide (x = y)) w := by
  rw [run_equalIn_struct w 9999 _ _ _ (by kernel_rfl) (by kernel_rfl), fields_tr]
  obtain ⟨a, b, c, d⟩ := x
  obtain ⟨a', b', c', d'⟩ := y
  have key : ∀ s t : ByteArray, (s.toList = t.toList) = (s = t) := fun s t => propext ⟨fun h => str_ext h, fun h => by rw [h]⟩
  by_cases h1 : a = a'
  · subst h1
    by_cases h2 : b = b'
    · subst h2
      by_cases h3 : c = c'
      · subst h3
        by_cases h4 : d = d'
        · subst h4
          simp [Op.eqFields, part, go_sem]
        · simp [Op.eqFields, part, go_sem, h4]
      · simp [Op.eqFields, part, go_sem, h3, key]
    · simp [Op.eqFields, part, go_sem, h2, key]
  · simp [Op.eqFields, part, go_sem, h1, key]
theorem neq_tr (x y : Tr) (b : Bool) (hb : decide (x ≠ y) = b) (w : World) : (binOp .neq 31 (.agg #[.string x.fr, .string x.to_, .string x.con, .int .i64 x.amt]) (.agg #[.string y.fr, .string y.to_, .string y.con, .int .i64 y.amt])).run Try.prog w = .ok (.bool b) w := by
  rw [run_neq_struct, run_tr]
  subst hb
  by_cases h : x = y <;> simp [h, Result.andThen]
theorem eql_tr (x y : Tr) (b : Bool) (hb : decide (x = y) = b) (w : World) : (binOp .eql 31 (.agg #[.string x.fr, .string x.to_, .string x.con, .int .i64 x.amt]) (.agg #[.string y.fr, .string y.to_, .string y.con, .int .i64 y.amt])).run Try.prog w = .ok (.bool b) w := by
  rw [run_eql_struct, run_tr]
  subst hb
  rfl
theorem guard_tr (x y : Operand) (xs ys : Array Value) (w : World) : (eqGuard .neq 31 x y (.agg xs) (.agg ys)).run Try.prog w = .ok () w := run_eqGuard_agg w .neq _ x y xs ys (by kernel_rfl)
theorem guard_tr2 (x y : Operand) (xs ys : Array Value) (w : World) : (eqGuard .eql 31 x y (.agg xs) (.agg ys)).run Try.prog w = .ok () w := run_eqGuard_agg w .eql _ x y xs ys (by kernel_rfl)
set_option maxRecDepth 100000 in
set_option maxHeartbeats 2000000 in
theorem same_any (a b : Option Addr) (c d : Nat) (xs ys : List Tr) (n m : Nat) (w : World) (hn : xs.length = n) (hm : ys.length = m) (hx : n ≤ 1000000) (hA : AtL w 4 trc a xs) (hB : AtL w 4 trc b ys) :
    Calls Try.prog 13 #[.slice a n c, .slice b m d] w fun e w' => e = .returned (.bool (decide (xs = ys))) ∧ Below w.heap.size w w' := by
  subst hn
  subst hm
  have HA := Lib.hid hA
  have HB := Lib.hid hB
  clear hA hB
  by_cases hl : xs.length = ys.length
  · have HL := Lib.hid hl
    rw [← hl]
    clear hl
    go_enter Try.func13, Try.ntmps13
    go_wp2_with fail
    go_loopw [5] (fun i wr => ∃ k : Nat, k ≤ xs.length ∧ i = .int .i64 k ∧ Hid (xs.take k = ys.take k) ∧ Below w.heap.size w wr) (fun i _ => xs.length - (intOf i).toNat)
    case atStart => exact ⟨0, by omega, rfl, rfl, Below.refl _ _⟩
    case round =>
      obtain ⟨k, hk, rfl, HT, hbw⟩ := hrel
      by_cases hlt : k < xs.length
      · have hlt2 : k < ys.length := by rw [← HL.out]; exact hlt
        obtain ⟨bx, ox, rfl, hcx⟩ := (HA.out.below hbw) k _ (getE hlt)
        obtain ⟨b_, oy, rfl, hcy⟩ := (HB.out.below hbw) k _ (getE hlt2)
        have HTX := Lib.hid (show xs.take (k + 1) = xs.take k ++ [xs[k]] from List.take_succ_eq_append_getElem hlt)
        have HTY := Lib.hid (show ys.take (k + 1) = ys.take k ++ [ys[k]] from List.take_succ_eq_append_getElem hlt2)
        have HNE := Lib.hid (show xs[k] ≠ ys[k] → xs ≠ ys from fun h e => h (by subst e; rfl))
        have q0x : wr.cell? ⟨bx, ox + k * 4, none⟩ = some (.string xs[k].fr) := hcx 0 _ rfl
        have q1x : wr.cell? ⟨bx, ox + k * 4 + 1, none⟩ = some (.string xs[k].to_) := hcx 1 _ rfl
        have q2x : wr.cell? ⟨bx, ox + k * 4 + 2, none⟩ = some (.string xs[k].con) := hcx 2 _ rfl
        have q3x : wr.cell? ⟨bx, ox + k * 4 + 3, none⟩ = some (.int .i64 xs[k].amt) := hcx 3 _ rfl
        have q0y : wr.cell? ⟨b_, oy + k * 4, none⟩ = some (.string ys[k].fr) := hcy 0 _ rfl
        have q1y : wr.cell? ⟨b_, oy + k * 4 + 1, none⟩ = some (.string ys[k].to_) := hcy 1 _ rfl
        have q2y : wr.cell? ⟨b_, oy + k * 4 + 2, none⟩ = some (.string ys[k].con) := hcy 2 _ rfl
        have q3y : wr.cell? ⟨b_, oy + k * 4 + 3, none⟩ = some (.int .i64 ys[k].amt) := hcy 3 _ rfl
        clear hcx hcy
        generalize xs[k] = x at *
        generalize ys[k] = y at *
        clear hlt2
        have k0 : (0 : Int) ≤ k := by omega
        have k1 : (k : Int) < xs.length := by omega
        have hgd := guard_tr
        by_cases hxy : x = y
        · have hr := fun w => neq_tr x y false (by simp [hxy]) w
          have HT2 : Hid (xs.take (k + 1) = ys.take (k + 1)) := by unfold Hid; rw [HTX.out, HTY.out, HT.out, hxy]
          clear hxy HTX HTY HNE
          go_wp2_with fail
          go_quiet (fail)
          go_wp2
          go_roundw
          case rel => exact ⟨k + 1, by omega, by go_num, HT2, below_drewN hbw _⟩
          case measure => simp [intOf]; omega
        · have hr := fun w => neq_tr x y true (by simp [hxy]) w
          have HE : Hid (decide (xs = ys) = false) := decide_eq_false (HNE.out hxy)
          clear hxy HTX HTY HNE
          go_wp2_with fail
          go_quiet (fail)
          go_wp2
          go_ret
          exact ⟨ret_bool HE.out.symm, below_drewN hbw _⟩
      · have HE : Hid (decide (xs = ys) = true) := by
          have := HT.out
          rw [List.take_of_length_le (by omega), List.take_of_length_le (by rw [← HL.out]; omega)] at this
          exact decide_eq_true this
        go_wp2
        go_ret
        exact ⟨ret_bool HE.out.symm, hbw⟩
  · have HE := Lib.hid (show decide (xs = ys) = false from decide_eq_false (fun e => hl (by rw [e])))
    have hl2 : ((xs.length : Int) != ys.length) = true := by rw [bne_iff_ne]; omega
    go_enter Try.func13, Try.ntmps13
    go_wp2
    go_ret
    exact ⟨ret_bool HE.out.symm, Below.refl _ _⟩

set_option maxRecDepth 100000 in
set_option maxHeartbeats 2000000 in
theorem sints_any (a b : Option Addr) (c d : Nat) (xs ys : List Int) (n m : Nat) (w : World) (hn : xs.length = n) (hm : ys.length = m) (hx : n ≤ 1000000) (hA : AtL w 1 ic a xs) (hB : AtL w 1 ic b ys) :
    Calls Try.prog 20 #[.slice a n c, .slice b m d] w fun e w' => e = .returned (.bool (decide (xs = ys))) ∧ Below w.heap.size w w' := by
  subst hn
  subst hm
  have HA := Lib.hid hA
  have HB := Lib.hid hB
  clear hA hB
  by_cases hl : xs.length = ys.length
  · have HL := Lib.hid hl.symm
    rw [← hl]
    clear hl
    go_enter Try.func20, Try.ntmps20
    go_wp2_with fail
    go_loopw [5] (fun i wr => ∃ k : Nat, k ≤ xs.length ∧ i = .int .i64 k ∧ Hid (xs.take k = ys.take k) ∧ Below w.heap.size w wr) (fun i _ => xs.length - (intOf i).toNat)
    case atStart => exact ⟨0, by omega, rfl, rfl, Below.refl _ _⟩
    case round =>
      obtain ⟨k, hk, rfl, HT, hbw⟩ := hrel
      by_cases hlt : k < xs.length
      · have hlt2 : k < ys.length := by rw [HL.out]; exact hlt
        obtain ⟨bx, ox, rfl, hcx⟩ := (HA.out.below hbw) k _ (getE hlt)
        obtain ⟨b_, oy, rfl, hcy⟩ := (HB.out.below hbw) k _ (getE hlt2)
        have HTX := Lib.hid (show xs.take (k + 1) = xs.take k ++ [xs[k]] from List.take_succ_eq_append_getElem hlt)
        have HTY := Lib.hid (show ys.take (k + 1) = ys.take k ++ [ys[k]] from List.take_succ_eq_append_getElem hlt2)
        have HNE := Lib.hid (show xs[k] ≠ ys[k] → xs ≠ ys from fun h e => h (by subst e; rfl))
        have q0x : wr.cell? ⟨bx, ox + k * 1, none⟩ = some (.int .i64 xs[k]) := hcx 0 _ rfl
        have q0y : wr.cell? ⟨b_, oy + k * 1, none⟩ = some (.int .i64 ys[k]) := hcy 0 _ rfl
        rw [Nat.mul_one] at q0x q0y
        clear hcx hcy
        generalize xs[k] = x at *
        generalize ys[k] = y at *
        clear hlt2
        have k0 : (0 : Int) ≤ k := by omega
        have k1 : (k : Int) < xs.length := by omega
        by_cases hxy : x = y
        · have HT2 : Hid (xs.take (k + 1) = ys.take (k + 1)) := by unfold Hid; rw [HTX.out, HTY.out, HT.out, hxy]
          have hq : (x != y) = false := by simp [hxy]
          clear hxy HTX HTY HNE
          go_wp2_with fail
          go_big_quiet (fail)
          go_wp2
          go_roundw
          case rel => exact ⟨k + 1, by omega, by go_num, HT2, below_drewN hbw _⟩
          case measure => simp [intOf]; omega
        · have HE : Hid (decide (xs = ys) = false) := decide_eq_false (HNE.out hxy)
          have hq : (x != y) = true := by simp [hxy]
          clear hxy HTX HTY HNE
          go_wp2_with fail
          go_big_quiet (fail)
          go_wp2
          go_ret
          exact ⟨ret_bool HE.out.symm, below_drewN hbw _⟩
      · have HE : Hid (decide (xs = ys) = true) := by
          have := HT.out
          rw [List.take_of_length_le (by omega), List.take_of_length_le (by rw [HL.out]; omega)] at this
          exact decide_eq_true this
        go_wp2
        go_ret
        exact ⟨ret_bool HE.out.symm, hbw⟩
  · have HE := Lib.hid (show decide (xs = ys) = false from decide_eq_false (fun e => hl (by rw [e])))
    have hl2 : ((xs.length : Int) != ys.length) = true := by rw [bne_iff_ne]; omega
    go_enter Try.func20, Try.ntmps20
    go_wp2
    go_ret
    exact ⟨ret_bool HE.out.symm, Below.refl _ _⟩
/-- what the laws leave aside -/
def longB (x : Tr) : Bool := decide ((1000 : Int) < x.fr.size) || decide ((1000 : Int) < x.to_.size) || decide ((1000 : Int) < x.con.size)
def greatT (l : List Tr) : Bool := decide ((30 : Int) < l.length) && decide ((l.length : Int) ≤ 200) || decide ((210 : Int) < l.length) || (List.range l.length).any fun i => longB (gt l i)
theorem any_yes {n : Nat} {P : Nat → Bool} (i : Nat) (hi : i < n) (h : P i = true) : (List.range n).any P = true := List.any_eq_true.2 ⟨i, List.mem_range.2 hi, h⟩
theorem any_no {n : Nat} {P : Nat → Bool} (h : ∀ i, i < n → P i = false) : (List.range n).any P = false := by
  rw [List.any_eq_false]
  exact fun i hi => by rw [h i (List.mem_range.1 hi)]; decide
theorem great_no {l : List Tr} (h : greatT l = false) : (l.length ≤ 30 ∨ 200 < l.length) ∧ l.length ≤ 210 ∧ SzT l := by
  unfold greatT at h
  simp only [Bool.or_eq_false_iff, Bool.and_eq_false_iff, decide_eq_false_iff_not] at h
  refine ⟨by omega, by omega, fun i => ?_⟩
  rcases Nat.lt_or_ge i l.length with hi | hi
  · have := List.any_eq_false.1 h.2 i (List.mem_range.2 hi)
    unfold longB at this
    simp only [Bool.not_eq_true, Bool.or_eq_false_iff, decide_eq_false_iff_not] at this
    unfold maxLen
    omega
  · unfold gt
    rw [List.getD_eq_getElem?_getD, List.getElem?_eq_none hi]
    exact ⟨Nat.zero_le _, Nat.zero_le _, Nat.zero_le _⟩
set_option maxRecDepth 100000 in
set_option maxHeartbeats 2000000 in
theorem great_any (a : Option Addr) (c : Nat) (l : List Tr) (w : World) (hn : l.length ≤ maxLen) (hA : AtL w 4 trc a l) :
    Calls Try.prog 10 #[.slice a l.length c] w fun e w' => e = .returned (.bool (greatT l)) ∧ w' = w := by
  have HA := Lib.hid hA
  unfold maxLen at hn
  have HG := Lib.hid (show greatT l = (decide ((30 : Int) < l.length) && decide ((l.length : Int) ≤ 200) || decide ((210 : Int) < l.length) || (List.range l.length).any fun i => longB (gt l i)) from rfl)
  generalize greatT l = G at HG ⊢
  have HLB := Lib.hid (fun x => (show longB x = (decide ((1000 : Int) < x.fr.size) || decide ((1000 : Int) < x.to_.size) || decide ((1000 : Int) < x.con.size)) from rfl))
  clear hA
  rcases hb (decide ((30 : Int) < l.length) && decide ((l.length : Int) ≤ 200)) with h1 | h1
  · have HE := Lib.hid (show G = true by rw [HG.out, h1]; rfl)
    rw [Bool.and_eq_true, decide_eq_true_eq, decide_eq_true_eq] at h1
    obtain ⟨h1, h2⟩ := h1
    go_enter Try.func10, Try.ntmps10
    go_wp2
    go_ret
    exact ⟨ret_bool HE.out.symm, rfl⟩
  · rcases hb (decide ((210 : Int) < l.length)) with h2 | h2
    · have HE := Lib.hid (show G = true by rw [HG.out, h1, h2]; rfl)
      rw [decide_eq_true_eq] at h2
      have h3 : ¬ (l.length : Int) ≤ 200 := by omega
      have h4 : (30 : Int) < l.length := by omega
      clear h1
      go_enter Try.func10, Try.ntmps10
      go_wp2
      go_ret
      exact ⟨ret_bool HE.out.symm, rfl⟩
    · rw [h1, h2] at HG
      rw [decide_eq_false_iff_not] at h2
      have h3 : (30 : Int) < l.length ∧ ¬ (l.length : Int) ≤ 200 ∨ ¬ (30 : Int) < l.length := by
        simp only [Bool.and_eq_false_iff, decide_eq_false_iff_not] at h1
        omega
      clear h1
      rcases h3 with ⟨h4, h5⟩ | h4
      all_goals
        go_enter Try.func10, Try.ntmps10
        go_wp2_with fail
        go_loop [3] (fun i => ∃ k : Nat, k ≤ l.length ∧ i = .int .i64 k ∧ Hid (∀ i, i < k → longB (gt l i) = false)) (fun i => l.length - (intOf i).toNat)
        case atStart => exact ⟨0, by omega, rfl, fun i hi => by omega⟩
        case round =>
          obtain ⟨k, hk, rfl, HN⟩ := hrel
          rcases Nat.lt_or_ge k l.length with hlt | hge
          · have hki : (k : Int) < l.length := by omega
            have hk0 : (0 : Int) ≤ (k : Int) := by omega
            obtain ⟨lb, lo, rfl, q0, q1, q2, q3⟩ := at_tr HA.out k hlt
            have HB := Lib.hid (HLB.out (gt l k))
            have HBY := Lib.hid (show longB (gt l k) = true → G = true from fun e => by rw [HG.out, any_yes k hlt e]; rfl)
            have HBN := Lib.hid (show longB (gt l k) = false → ∀ i, i < k + 1 → longB (gt l i) = false from fun e i hi => by
              rcases Nat.eq_or_lt_of_le (show i ≤ k by omega) with g | g
              · rw [g]; exact e
              · exact HN.out i g)
            generalize gt l k = x at *
            obtain ⟨xf, xt, xc, xa⟩ := x
            dsimp only at q0 q1 q2 q3 HB
            by_cases c1 : (1000 : Int) < xf.size
            · have HE := Lib.hid (HBY.out (by rw [HB.out, decide_eq_true c1]; rfl))
              clear HB HBY HBN
              go_wp2
              go_ret
              exact ⟨ret_bool HE.out.symm, rfl⟩
            · by_cases c2 : (1000 : Int) < xt.size
              · have HE := Lib.hid (HBY.out (by rw [HB.out, decide_eq_true c2]; simp))
                clear HB HBY HBN
                go_wp2
                go_ret
                exact ⟨ret_bool HE.out.symm, rfl⟩
              · by_cases c3 : (1000 : Int) < xc.size
                · have HE := Lib.hid (HBY.out (by rw [HB.out, decide_eq_true c3]; simp))
                  clear HB HBY HBN
                  go_wp2
                  go_ret
                  exact ⟨ret_bool HE.out.symm, rfl⟩
                · have HN2 := Lib.hid (HBN.out (by rw [HB.out, decide_eq_false c1, decide_eq_false c2, decide_eq_false c3]; rfl))
                  clear HB HBY HBN
                  go_wp2
                  go_round
                  case rel => exact ⟨k + 1, by omega, by go_num, HN2⟩
                  case measure => simp [intOf]; omega
          · obtain rfl : k = l.length := by omega
            rw [any_no HN.out] at HG
            go_wp2
            go_ret
            exact ⟨ret_bool HG.out.symm, rfl⟩
/-- the sums so far -/
def grK (l : List Tr) : Nat → Int
  | 0 => 0
  | k + 1 => grK l k + (gt l k).amt
def dl (p c : ByteArray) (x : Tr) : Int := if x.con = c then (if x.to_ = p then x.amt else if x.fr = p then -x.amt else 0) else 0
def netK (l : List Tr) (p c : ByteArray) : Nat → Int
  | 0 => 0
  | k + 1 => netK l p c k + dl p c (gt l k)
theorem okT_at {l : List Tr} (h : vldB l = true) (i : Nat) (hi : i < l.length) : nm (gt l i).fr = true ∧ nm (gt l i).to_ = true ∧ nm (gt l i).con = true ∧ (gt l i).fr ≠ (gt l i).to_ ∧ 1 ≤ (gt l i).amt ∧ (gt l i).amt ≤ 1125899906842624 := by
  have := allB_at h i hi
  unfold elT okT at this
  simp only [Bool.and_eq_true, Bool.not_eq_true', decide_eq_false_iff_not] at this
  obtain ⟨⟨⟨⟨⟨⟨h1, h2⟩, h3⟩, h4⟩, h5⟩, h6⟩, _⟩ := this
  refine ⟨h1, h2, h3, fun e => ?_, by omega, by omega⟩
  rw [e] at h4
  simp at h4
theorem grK_range {l : List Tr} (h : vldB l = true) : ∀ k, k ≤ l.length → 0 ≤ grK l k ∧ grK l k ≤ k * 1125899906842624 := by
  intro k
  induction k with
  | zero => intro _; exact ⟨Int.le_refl _, Int.le_refl _⟩
  | succ k ih =>
    intro hk
    have := ih (by omega)
    have := okT_at h k (by omega)
    unfold grK
    omega
theorem dl_range {l : List Tr} (h : vldB l = true) (p c : ByteArray) (k : Nat) (hk : k < l.length) : -1125899906842624 ≤ dl p c (gt l k) ∧ dl p c (gt l k) ≤ 1125899906842624 := by
  have := okT_at h k hk
  unfold dl
  split
  · split
    · omega
    · split <;> omega
  · omega
theorem netK_range {l : List Tr} (h : vldB l = true) (p c : ByteArray) : ∀ k, k ≤ l.length → -(k * 1125899906842624 : Int) ≤ netK l p c k ∧ netK l p c k ≤ k * 1125899906842624 := by
  intro k
  induction k with
  | zero => intro _; exact ⟨Int.le_refl _, Int.le_refl _⟩
  | succ k ih =>
    intro hk
    have := ih (by omega)
    have := dl_range h p c k (by omega)
    unfold netK
    omega
theorem chk_cases (l : List Tr) : (chkE l = 0 ∧ vldB l = true ∧ l.length ≤ 200) ∨ chkE l = 4 ∨ chkE l = 8 := by
  unfold chkE
  split
  · exact .inr (.inl rfl)
  · split
    · exact .inl ⟨rfl, by assumption, by omega⟩
    · exact .inr (.inr rfl)
def groF (l : List Tr) : Int := if chkE l = 0 then grK l l.length else 0
def netE (l : List Tr) (p c : ByteArray) : Int := if chkE l = 0 then (if nm p && nm c then 0 else 2) else chkE l
def netF (l : List Tr) (p c : ByteArray) : Int := if chkE l = 0 then (if nm p && nm c then netK l p c l.length else 0) else 0
set_option maxRecDepth 100000 in
set_option maxHeartbeats 2000000 in
theorem gross_any (a : Option Addr) (c : Nat) (l : List Tr) (w : World) (hn : l.length ≤ 1000000) (hZ : SzT l) (hA : AtL w 4 trc a l) :
    Calls Try.prog 16 #[.slice a l.length c] w fun e w' => e = .returned (.tuple #[.int .i64 (groF l), .int .i64 (chkE l)]) ∧ Below w.heap.size w w' := by
  have HC := Lib.hid (check_any a c l w hn hZ hA)
  have HA := Lib.hid hA
  clear hA hZ
  rcases chk_cases l with ⟨h0, hv, h200⟩ | h | h
  rotate_left
  all_goals try (
    have HE := Lib.hid (show groF l = 0 by unfold groF; rw [h]; rfl)
    rw [HE.out, h]
    rw [h] at HC
    clear HE h
    go_enter Try.func16, Try.ntmps16
    go_wp2_with fail
    refine HC.out.mono ?_
    rintro e w1 ⟨rfl, hb1⟩
    go_wp2
    go_ret2
    exact ⟨rfl, hb1⟩)
  have HE := Lib.hid (show groF l = grK l l.length by unfold groF; rw [h0]; rfl)
  have HGR := Lib.hid (grK_range hv)
  have HGS := Lib.hid (fun k => (show grK l (k + 1) = grK l k + (gt l k).amt from rfl))
  have HOK := Lib.hid (okT_at hv)
  have HG0 := Lib.hid (show grK l 0 = 0 from rfl)
  rw [HE.out, h0]
  rw [h0] at HC
  clear HE h0 hv
  generalize grK l = gr at *
  go_enter Try.func16, Try.ntmps16
  go_wp2_with fail
  refine HC.out.mono ?_
  rintro e w1 ⟨rfl, hb1⟩
  go_wp2_with fail
  go_loopw [5, 7, 15] (fun s _ i wr => ∃ k : Nat, k ≤ l.length ∧ i = .int .i64 k ∧ s = .int .i64 (gr k) ∧ Below w.heap.size w wr) (fun _ _ i _ => l.length - (intOf i).toNat)
  case atStart => exact ⟨0, by omega, rfl, by rw [HG0.out], hb1⟩
  case round =>
    obtain ⟨k, hk, rfl, rfl, hbw⟩ := hrel
    rcases Nat.lt_or_ge k l.length with hlt | hge
    · have hki : (k : Int) < l.length := by omega
      have hk0 : (0 : Int) ≤ (k : Int) := by omega
      obtain ⟨lb, lo, rfl, q0, q1, q2, q3⟩ := at_tr (HA.out.below hbw) k hlt
      have g1 := HGR.out k (by omega)
      have g2 := HOK.out k hlt
      have HS := Lib.hid (HGS.out k)
      generalize gt l k = x at *
      obtain ⟨xf, xt, xc, xa⟩ := x
      dsimp only at q0 q1 q2 q3 HS g2
      have g3 : 0 ≤ gr k + xa := by omega
      have g4 : gr k + xa ≤ 9223372036854775807 := by omega
      go_wp2
      go_roundw
      case rel => exact ⟨k + 1, by omega, by go_num, by rw [HS.out], hbw.alloc hbw.size _⟩
      case measure => simp [intOf]; omega
    · obtain rfl : k = l.length := by omega
      go_wp2
      go_ret2
      exact ⟨rfl, hbw⟩
set_option maxRecDepth 100000 in
set_option maxHeartbeats 2000000 in
theorem rgross_any (a : Option Addr) (c : Nat) (l : List Tr) (w : World) (hn : l.length ≤ 1000000) (hZ : SzT l) (hA : AtL w 4 trc a l) :
    Calls Try.prog 17 #[.slice a l.length c] w fun e w' => e = .returned (.tuple #[.int .i64 (groF l), .int .i64 (chkE l)]) ∧ Below w.heap.size w w' := by
  have HC := Lib.hid (rcheck_any a c l w hn hZ hA)
  have HA := Lib.hid hA
  clear hA hZ
  rcases chk_cases l with ⟨h0, hv, h200⟩ | h | h
  rotate_left
  all_goals try (
    have HE := Lib.hid (show groF l = 0 by unfold groF; rw [h]; rfl)
    rw [HE.out, h]
    rw [h] at HC
    clear HE h
    go_enter Try.func17, Try.ntmps17
    go_wp2_with fail
    refine HC.out.mono ?_
    rintro e w1 ⟨rfl, hb1⟩
    go_wp2
    go_ret2
    exact ⟨rfl, hb1⟩)
  have HE := Lib.hid (show groF l = grK l l.length by unfold groF; rw [h0]; rfl)
  have HGR := Lib.hid (grK_range hv)
  have HGS := Lib.hid (fun k => (show grK l (k + 1) = grK l k + (gt l k).amt from rfl))
  have HOK := Lib.hid (okT_at hv)
  have HG0 := Lib.hid (show grK l 0 = 0 from rfl)
  rw [HE.out, h0]
  rw [h0] at HC
  clear HE h0 hv
  generalize grK l = gr at *
  go_enter Try.func17, Try.ntmps17
  go_wp2_with fail
  refine HC.out.mono ?_
  rintro e w1 ⟨rfl, hb1⟩
  go_wp2_with fail
  go_loop [5, 6] (fun s i => ∃ k : Nat, k ≤ l.length ∧ i = .int .i64 k ∧ s = .int .i64 (gr k)) (fun _ i => l.length - (intOf i).toNat)
  case atStart => exact ⟨0, by omega, rfl, by rw [HG0.out]⟩
  case round =>
    obtain ⟨k, hk, rfl, rfl⟩ := hrel
    rcases Nat.lt_or_ge k l.length with hlt | hge
    · have hki : (k : Int) < l.length := by omega
      have hk0 : (0 : Int) ≤ (k : Int) := by omega
      obtain ⟨lb, lo, rfl, q0, q1, q2, q3⟩ := at_tr (HA.out.below hb1) k hlt
      have g1 := HGR.out k (by omega)
      have g2 := HOK.out k hlt
      have HS := Lib.hid (HGS.out k)
      generalize gt l k = x at *
      obtain ⟨xf, xt, xc, xa⟩ := x
      dsimp only at q0 q1 q2 q3 HS g2
      have g3 : 0 ≤ gr k + xa := by omega
      have g4 : gr k + xa ≤ 9223372036854775807 := by omega
      go_wp2
      go_round
      case rel => exact ⟨k + 1, by omega, by go_num, by rw [HS.out]⟩
      case measure => simp [intOf]; omega
    · obtain rfl : k = l.length := by omega
      go_wp2
      go_ret2
      exact ⟨rfl, hb1⟩
theorem neq_no {a b : ByteArray} (h : a = b) : (a.toList != b.toList) = false := by rw [h]; simp
theorem neq_yes {a b : ByteArray} (h : a ≠ b) : (a.toList != b.toList) = true := by
  rw [bne_iff_ne]
  exact fun e => h (str_ext e)
set_option maxRecDepth 100000 in
set_option maxHeartbeats 4000000 in
theorem net_any (a : Option Addr) (c : Nat) (l : List Tr) (p t : ByteArray) (w : World) (hn : l.length ≤ 1000000) (hZ : SzT l) (hp : p.size ≤ maxLen) (ht : t.size ≤ maxLen) (hA : AtL w 4 trc a l) :
    Calls Try.prog 14 #[.slice a l.length c, .string p, .string t] w fun e w' => e = .returned (.tuple #[.int .i64 (netF l p t), .int .i64 (netE l p t)]) ∧ Below w.heap.size w w' := by
  have HC := Lib.hid (check_any a c l w hn hZ hA)
  have HA := Lib.hid hA
  have HPZ := Lib.hid hp
  have HTZ := Lib.hid ht
  clear hA hZ hp ht
  rcases chk_cases l with ⟨h0, hv, h200⟩ | h | h
  rotate_left
  all_goals try (
    have HE := Lib.hid (show netF l p t = 0 by unfold netF; rw [h]; rfl)
    have HE2 := Lib.hid (show netE l p t = chkE l by unfold netE; rw [h]; rfl)
    rw [HE.out, HE2.out, h]
    rw [h] at HC
    clear HE HE2 h
    go_enter Try.func14, Try.ntmps14
    go_wp2_with fail
    refine HC.out.mono ?_
    rintro e w1 ⟨rfl, hb1⟩
    go_wp2
    go_ret2
    exact ⟨rfl, hb1⟩)
  rw [h0] at HC
  rcases hb (nm p) with hp | hp
  rotate_left
  · have HE := Lib.hid (show netF l p t = 0 by unfold netF; rw [h0, hp]; rfl)
    have HE2 := Lib.hid (show netE l p t = 2 by unfold netE; rw [h0, hp]; rfl)
    rw [HE.out, HE2.out]
    have HP := Lib.hid hp
    clear HE HE2 h0 hp hv
    go_enter Try.func14, Try.ntmps14
    go_wp2_with fail
    refine HC.out.mono ?_
    rintro e w1 ⟨rfl, hb1⟩
    go_wp2_with fail
    refine (name_q _ _ _ HPZ.out HP.out).mono ?_
    rintro e w2 ⟨rfl, rfl⟩
    go_wp2
    go_ret2
    exact ⟨rfl, hb1⟩
  have HP := Lib.hid hp
  rcases hb (nm t) with ht | ht
  rotate_left
  · have HE := Lib.hid (show netF l p t = 0 by unfold netF; rw [h0, hp, ht]; rfl)
    have HE2 := Lib.hid (show netE l p t = 2 by unfold netE; rw [h0, hp, ht]; rfl)
    rw [HE.out, HE2.out]
    have HT := Lib.hid ht
    clear HE HE2 h0 hp ht hv
    go_enter Try.func14, Try.ntmps14
    go_wp2_with fail
    refine HC.out.mono ?_
    rintro e w1 ⟨rfl, hb1⟩
    go_wp2_with fail
    refine (name_q _ _ _ HPZ.out HP.out).mono ?_
    rintro e w2 ⟨rfl, rfl⟩
    go_wp2_with fail
    refine (name_q _ _ _ HTZ.out HT.out).mono ?_
    rintro e w2 ⟨rfl, rfl⟩
    go_wp2
    go_ret2
    exact ⟨rfl, hb1⟩
  have HT := Lib.hid ht
  have HE := Lib.hid (show netF l p t = netK l p t l.length by unfold netF; rw [h0, hp, ht]; rfl)
  have HE2 := Lib.hid (show netE l p t = 0 by unfold netE; rw [h0, hp, ht]; rfl)
  have HNR := Lib.hid (netK_range hv p t)
  have HNS := Lib.hid (fun k => (show netK l p t (k + 1) = netK l p t k + dl p t (gt l k) from rfl))
  have HOK := Lib.hid (okT_at hv)
  have HN0 := Lib.hid (show netK l p t 0 = 0 from rfl)
  rw [HE.out, HE2.out]
  clear HE HE2 h0 hp ht hv
  generalize netK l p t = nk at *
  go_enter Try.func14, Try.ntmps14
  go_wp2_with fail
  refine HC.out.mono ?_
  rintro e w1 ⟨rfl, hb1⟩
  go_wp2_with fail
  refine (name_q _ _ _ HPZ.out HP.out).mono ?_
  rintro e w2 ⟨rfl, rfl⟩
  go_wp2_with fail
  refine (name_q _ _ _ HTZ.out HT.out).mono ?_
  rintro e w2 ⟨rfl, rfl⟩
  go_wp2_with fail
  go_loopw [9, 11, 27, 36, 44] (fun s _ i _ _ wr => ∃ k : Nat, k ≤ l.length ∧ i = .int .i64 k ∧ s = .int .i64 (nk k) ∧ Below w.heap.size w wr) (fun _ _ i _ _ _ => l.length - (intOf i).toNat)
  case atStart => exact ⟨0, by omega, rfl, by rw [HN0.out], hb1⟩
  case round =>
    obtain ⟨k, hk, rfl, rfl, hbw⟩ := hrel
    rcases Nat.lt_or_ge k l.length with hlt | hge
    · have hki : (k : Int) < l.length := by omega
      have hk0 : (0 : Int) ≤ (k : Int) := by omega
      obtain ⟨lb, lo, rfl, q0, q1, q2, q3⟩ := at_tr (HA.out.below hbw) k hlt
      have g1 := HNR.out k (by omega)
      have g2 := HOK.out k hlt
      have HNK := Lib.hid (HNS.out k)
      generalize gt l k = x at *
      obtain ⟨xf, xt, xc, xa⟩ := x
      dsimp only at q0 q1 q2 q3 g2
      by_cases hc : xc = t
      · by_cases h1 : xt = p
        · have h2 : ¬ xf = p := fun e => g2.2.2.2.1 (e.trans h1.symm)
          have HS := Lib.hid (show nk (k + 1) = nk k + xa by rw [HNK.out]; unfold dl; rw [if_pos hc, if_pos h1])
          have e1 := neq_no hc; have e0 := eq_yes hc
          have e2 := eq_yes h1.symm
          have e3 := eq_no (fun e => h2 e.symm)
          clear HNK hc h1 h2
          have g3 : -9223372036854775808 ≤ nk k + xa := by omega
          have g4 : nk k + xa ≤ 9223372036854775807 := by omega
          go_wp2
          go_roundw
          case rel => exact ⟨k + 1, by omega, by go_num, by rw [HS.out], hbw.alloc hbw.size _⟩
          case measure => simp [intOf]; omega
        · by_cases h2 : xf = p
          · have HS := Lib.hid (show nk (k + 1) = nk k - xa by rw [HNK.out]; unfold dl; rw [if_pos hc, if_neg h1, if_pos h2]; show nk k + -xa = nk k - xa; omega)
            have e1 := neq_no hc; have e0 := eq_yes hc
            have e2 := eq_no (fun e => h1 e.symm)
            have e3 := eq_yes h2.symm
            clear HNK hc h1 h2
            have g3 : -9223372036854775808 ≤ nk k - xa := by omega
            have g4 : nk k - xa ≤ 9223372036854775807 := by omega
            go_wp2
            go_roundw
            case rel => exact ⟨k + 1, by omega, by go_num, by rw [HS.out], hbw.alloc hbw.size _⟩
            case measure => simp [intOf]; omega
          · have HS := Lib.hid (show nk (k + 1) = nk k by rw [HNK.out]; unfold dl; rw [if_pos hc, if_neg h1, if_neg h2]; omega)
            have e1 := neq_no hc; have e0 := eq_yes hc
            have e2 := eq_no (fun e => h1 e.symm)
            have e3 := eq_no (fun e => h2 e.symm)
            clear HNK hc h1 h2
            go_wp2
            go_roundw
            case rel => exact ⟨k + 1, by omega, by go_num, by rw [HS.out], hbw.alloc hbw.size _⟩
            case measure => simp [intOf]; omega
      · have HS := Lib.hid (show nk (k + 1) = nk k by rw [HNK.out]; unfold dl; rw [if_neg hc]; omega)
        have e1 := neq_yes hc; have e0 := eq_no hc
        clear HNK hc
        go_wp2
        go_roundw
        case rel => exact ⟨k + 1, by omega, by go_num, by rw [HS.out], hbw.alloc hbw.size _⟩
        case measure => simp [intOf]; omega
    · obtain rfl : k = l.length := by omega
      go_wp2
      go_ret2
      exact ⟨rfl, hbw⟩
set_option maxRecDepth 100000 in
set_option maxHeartbeats 4000000 in
theorem rnet_any (a : Option Addr) (c : Nat) (l : List Tr) (p t : ByteArray) (w : World) (hn : l.length ≤ 1000000) (hZ : SzT l) (hp : p.size ≤ maxLen) (ht : t.size ≤ maxLen) (hA : AtL w 4 trc a l) :
    Calls Try.prog 15 #[.slice a l.length c, .string p, .string t] w fun e w' => e = .returned (.tuple #[.int .i64 (netF l p t), .int .i64 (netE l p t)]) ∧ Below w.heap.size w w' := by
  have HC := Lib.hid (rcheck_any a c l w hn hZ hA)
  have HA := Lib.hid hA
  have HPZ := Lib.hid hp
  have HTZ := Lib.hid ht
  clear hA hZ hp ht
  rcases chk_cases l with ⟨h0, hv, h200⟩ | h | h
  rotate_left
  all_goals try (
    have HE := Lib.hid (show netF l p t = 0 by unfold netF; rw [h]; rfl)
    have HE2 := Lib.hid (show netE l p t = chkE l by unfold netE; rw [h]; rfl)
    rw [HE.out, HE2.out, h]
    rw [h] at HC
    clear HE HE2 h
    go_enter Try.func15, Try.ntmps15
    go_wp2_with fail
    refine HC.out.mono ?_
    rintro e w1 ⟨rfl, hb1⟩
    go_wp2
    go_ret2
    exact ⟨rfl, hb1⟩)
  rw [h0] at HC
  rcases hb (nm p) with hp | hp
  rotate_left
  · have HE := Lib.hid (show netF l p t = 0 by unfold netF; rw [h0, hp]; rfl)
    have HE2 := Lib.hid (show netE l p t = 2 by unfold netE; rw [h0, hp]; rfl)
    rw [HE.out, HE2.out]
    have HP := Lib.hid hp
    clear HE HE2 h0 hp hv
    go_enter Try.func15, Try.ntmps15
    go_wp2_with fail
    refine HC.out.mono ?_
    rintro e w1 ⟨rfl, hb1⟩
    go_wp2_with fail
    refine (rname_q _ _ _ HPZ.out HP.out).mono ?_
    rintro e w2 ⟨rfl, rfl⟩
    go_wp2
    go_ret2
    exact ⟨rfl, hb1⟩
  have HP := Lib.hid hp
  rcases hb (nm t) with ht | ht
  rotate_left
  · have HE := Lib.hid (show netF l p t = 0 by unfold netF; rw [h0, hp, ht]; rfl)
    have HE2 := Lib.hid (show netE l p t = 2 by unfold netE; rw [h0, hp, ht]; rfl)
    rw [HE.out, HE2.out]
    have HT := Lib.hid ht
    clear HE HE2 h0 hp ht hv
    go_enter Try.func15, Try.ntmps15
    go_wp2_with fail
    refine HC.out.mono ?_
    rintro e w1 ⟨rfl, hb1⟩
    go_wp2_with fail
    refine (rname_q _ _ _ HPZ.out HP.out).mono ?_
    rintro e w2 ⟨rfl, rfl⟩
    go_wp2_with fail
    refine (rname_q _ _ _ HTZ.out HT.out).mono ?_
    rintro e w2 ⟨rfl, rfl⟩
    go_wp2
    go_ret2
    exact ⟨rfl, hb1⟩
  have HT := Lib.hid ht
  have HE := Lib.hid (show netF l p t = netK l p t l.length by unfold netF; rw [h0, hp, ht]; rfl)
  have HE2 := Lib.hid (show netE l p t = 0 by unfold netE; rw [h0, hp, ht]; rfl)
  have HNR := Lib.hid (netK_range hv p t)
  have HNS := Lib.hid (fun k => (show netK l p t (k + 1) = netK l p t k + dl p t (gt l k) from rfl))
  have HOK := Lib.hid (okT_at hv)
  have HN0 := Lib.hid (show netK l p t 0 = 0 from rfl)
  rw [HE.out, HE2.out]
  clear HE HE2 h0 hp ht hv
  generalize netK l p t = nk at *
  go_enter Try.func15, Try.ntmps15
  go_wp2_with fail
  refine HC.out.mono ?_
  rintro e w1 ⟨rfl, hb1⟩
  go_wp2_with fail
  refine (rname_q _ _ _ HPZ.out HP.out).mono ?_
  rintro e w2 ⟨rfl, rfl⟩
  go_wp2_with fail
  refine (rname_q _ _ _ HTZ.out HT.out).mono ?_
  rintro e w2 ⟨rfl, rfl⟩
  go_wp2_with fail
  go_loop [9, 10] (fun s i => ∃ k : Nat, k ≤ l.length ∧ i = .int .i64 k ∧ s = .int .i64 (nk k)) (fun _ i => l.length - (intOf i).toNat)
  case atStart => exact ⟨0, by omega, rfl, by rw [HN0.out]⟩
  case round =>
    obtain ⟨k, hk, rfl, rfl⟩ := hrel
    rcases Nat.lt_or_ge k l.length with hlt | hge
    · have hki : (k : Int) < l.length := by omega
      have hk0 : (0 : Int) ≤ (k : Int) := by omega
      obtain ⟨lb, lo, rfl, q0, q1, q2, q3⟩ := at_tr (HA.out.below hb1) k hlt
      have g1 := HNR.out k (by omega)
      have g2 := HOK.out k hlt
      have HNK := Lib.hid (HNS.out k)
      generalize gt l k = x at *
      obtain ⟨xf, xt, xc, xa⟩ := x
      dsimp only at q0 q1 q2 q3 g2
      by_cases hc : xc = t
      · by_cases h1 : xt = p
        · have h2 : ¬ xf = p := fun e => g2.2.2.2.1 (e.trans h1.symm)
          have HS := Lib.hid (show nk (k + 1) = nk k + xa by rw [HNK.out]; unfold dl; rw [if_pos hc, if_pos h1])
          have e1 := eq_yes hc
          have e2 := eq_yes h1
          have e3 := eq_no h2
          clear HNK hc h1 h2
          have g3 : -9223372036854775808 ≤ nk k + xa := by omega
          have g4 : nk k + xa ≤ 9223372036854775807 := by omega
          go_wp2
          go_round
          case rel => exact ⟨k + 1, by omega, by go_num, by rw [HS.out]⟩
          case measure => simp [intOf]; omega
        · by_cases h2 : xf = p
          · have HS := Lib.hid (show nk (k + 1) = nk k - xa by rw [HNK.out]; unfold dl; rw [if_pos hc, if_neg h1, if_pos h2]; show nk k + -xa = nk k - xa; omega)
            have e1 := eq_yes hc
            have e2 := eq_no h1
            have e3 := eq_yes h2
            clear HNK hc h1 h2
            have g3 : -9223372036854775808 ≤ nk k - xa := by omega
            have g4 : nk k - xa ≤ 9223372036854775807 := by omega
            go_wp2
            go_round
            case rel => exact ⟨k + 1, by omega, by go_num, by rw [HS.out]⟩
            case measure => simp [intOf]; omega
          · have HS := Lib.hid (show nk (k + 1) = nk k by rw [HNK.out]; unfold dl; rw [if_pos hc, if_neg h1, if_neg h2]; omega)
            have e1 := eq_yes hc
            have e2 := eq_no h1
            have e3 := eq_no h2
            clear HNK hc h1 h2
            go_wp2
            go_round
            case rel => exact ⟨k + 1, by omega, by go_num, by rw [HS.out]⟩
            case measure => simp [intOf]; omega
      · have HS := Lib.hid (show nk (k + 1) = nk k by rw [HNK.out]; unfold dl; rw [if_neg hc]; omega)
        have e1 := eq_no hc
        clear HNK hc
        go_wp2
        go_round
        case rel => exact ⟨k + 1, by omega, by go_num, by rw [HS.out]⟩
        case measure => simp [intOf]; omega
    · obtain rfl : k = l.length := by omega
      go_wp2
      go_ret2
      exact ⟨rfl, hb1⟩
end Go.Proofs.Ytpphiohppgphnaa.Cs

