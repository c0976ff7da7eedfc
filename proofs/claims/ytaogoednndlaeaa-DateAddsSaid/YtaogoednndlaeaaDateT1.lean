/-
  The walks of package date: digits, Text.
-/
import Derived.Test.YtaogoednndlaeaaDateW3
namespace Go.Proofs.Ytaogoednndlaeaa.Dt
open Go.RowKit Go.Proofs.Ytaogoednndlaeaa

/-- a digit's byte -/
def dg (n : Int) : UInt8 := UInt8.ofNat (48 + (n % 10).toNat)
theorem dg_nat (n : Int) : ((dg n).toNat : Int) = 48 + n % 10 := by
  unfold dg
  rw [UInt8.toNat_ofNat']
  omega
/-- the last digits of a number -/
def digs : Nat → Int → List UInt8
  | 0, _ => []
  | j + 1, n => digs j (n / 10) ++ [dg n]
theorem digs_length (j : Nat) (n : Int) : (digs j n).length = j := by
  induction j generalizing n with
  | zero => rfl
  | succ j ih => simp [digs, ih]
/-- bytes as cells -/
def B8 (l : List UInt8) : List Value := l.map fun b => .int .u8 (b.toNat : Int)
theorem B8_append (a b : List UInt8) : B8 (a ++ b) = B8 a ++ B8 b := by simp [B8]
theorem B8_dg (n : Int) : B8 [dg n] = [.int .u8 (48 + n % 10)] := by simp [B8, dg_nat]
/-- a slice of the call's own that holds these bytes -/
def OwnB (base : Nat) (l : List UInt8) (w : World) (e : Ending) (w' : World) : Prop :=
  ∃ v, e = .returned v ∧ w'.ownsRow base 5 1 v l.length (B8 l) ∧ Below base w w'

theorem info8 : (Try.prog.info? 5).map (fun i => (i.zero, i.size, i.bytes)) = some (some (.int .u8 0), 1, 1) := by kernel_rfl

theorem own_digit {base : Nat} {l : List UInt8} {n : Int} {w w1 w' : World} {v v' : Value} (hb : Below base w w1) (h : w'.ownsRow base 5 1 v' (l.length + 1) (B8 l ++ [.int .u8 (48 + n % 10)]))
    (hg : (w1.alloc (.cells #[.int .u8 (48 + n % 10)] 5)).grownBy w' v.ownBlock) (h1 : w1.ownsRow base 5 1 v l.length (B8 l)) (hbase : base ≤ w1.heap.size) :
    w'.ownsRow base 5 1 v' (l ++ [dg n]).length (B8 (l ++ [dg n])) ∧ Below base w w' := by
  refine ⟨by rw [B8_append, B8_dg, List.length_append]; exact h, ?_⟩
  refine (hb.alloc hbase _).grown hg (by simp; omega) (fun k hk => (h1.lt k hk).1)

set_option maxRecDepth 100000 in
set_option maxHeartbeats 1000000 in
theorem digits_any (j : Nat) : ∀ (n q : Int) (base : Nat) (v : Value) (l : List UInt8) (w : World), q = (j : Int) + 1 → 0 ≤ n → n ≤ 9999 → j ≤ 5 → l.length ≤ 100 →
    w.ownsRow base 5 1 v l.length (B8 l) → base ≤ w.heap.size →
    Calls Try.prog 35 #[v, .int .i64 n, .int .i64 q] w (OwnB base (l ++ digs (j + 1) n) w) := by
  obtain ⟨i0, hi, hz0, hz1, hz2⟩ := info_parts info8
  induction j with
  | zero =>
    intro n q base v l w hq h0 h1 hj hl hown hbase
    obtain rfl : q = 1 := by simpa using hq
    clear hq
    go_enter Try.func35, Try.ntmps35
    go_wp2_with (at_builtin; refine wpList_append_own _ rfl _ _ 56 rfl base 5 i0 (.int .u8 0) 1 1 Try.underlying56 hi hz0 hz1 hz2 rfl (by decide) _ _ _ rfl (hown.alloc _) ⟨w.heap.size, 0, none⟩ 1 1 [.int .u8 (48 + n % 10)] rfl rfl (cell_one_new _ _ _) (by simp [Value.oneCell']) (by unfold maxLen; omega) (by omega) (by simp; omega) ?_; intro v1 w1 hown1 hgrow1 _)
    go_ret
    exact ⟨_, rfl, own_digit (Below.refl _ _) hown1 hgrow1 hown hbase⟩
  | succ j ih =>
    intro n q base v l w hq h0 h1 hj hl hown hbase
    obtain rfl : q = (j : Int) + 1 + 1 := by rw [hq]; omega
    have hdl := digs_length (j + 1) (n / 10)
    have hq2 : (1 : Int) < j + 1 + 1 := by omega
    have HE := Lib.hid (show digs (j + 1 + 1) n = digs (j + 1) (n / 10) ++ [dg n] from rfl)
    have HL := Lib.hid (show (l ++ digs (j + 1) (n / 10)).length = l.length + (j + 1) by rw [List.length_append, hdl])
    clear hq hdl
    go_enter Try.func35, Try.ntmps35
    go_wp2_with fail
    refine (ih (n / 10) _ base v l w (by omega) (by omega) (by omega) (by omega) hl hown hbase).mono ?_
    rintro e w1 ⟨v1, rfl, hown1, hb1⟩
    have hbase1 : base ≤ w1.heap.size := Nat.le_trans hbase hb1.size
    go_wp2_with (at_builtin; refine wpList_append_own _ rfl _ _ 56 rfl base 5 i0 (.int .u8 0) 1 1 Try.underlying56 hi hz0 hz1 hz2 rfl (by decide) _ _ _ rfl (hown1.alloc _) ⟨w1.heap.size, 0, none⟩ 1 1 [.int .u8 (48 + n % 10)] rfl rfl (cell_one_new _ _ _) (by simp [Value.oneCell']) (by unfold maxLen; have := HL.out; omega) (by have := HL.out; omega) (by simp; omega) ?_; intro v2 w2 hown2 hgrow2 _)
    go_ret
    refine ⟨_, rfl, ?_⟩
    rw [HE.out, ← List.append_assoc]
    exact own_digit hb1 hown2 hgrow2 hown1 hbase1

/-- the bytes of a date's text -/
def textL (y m d : Int) : List UInt8 := digs 4 y ++ [45] ++ digs 2 m ++ [45] ++ digs 2 d
theorem textL_length (y m d : Int) : (textL y m d).length = 10 := by simp [textL, digs_length]

theorem own_byte {base : Nat} {l : List UInt8} {c : UInt8} {z : Int} {w w1 w' : World} {v v' : Value} (hc : (c.toNat : Int) = z) (hb : Below base w w1) (h : w'.ownsRow base 5 1 v' (l.length + 1) (B8 l ++ [.int .u8 z]))
    (hg : (w1.alloc (.cells #[.int .u8 z] 5)).grownBy w' v.ownBlock) (h1 : w1.ownsRow base 5 1 v l.length (B8 l)) (hbase : base ≤ w1.heap.size) :
    w'.ownsRow base 5 1 v' (l ++ [c]).length (B8 (l ++ [c])) ∧ Below base w w' := by
  refine ⟨by rw [B8_append, List.length_append]; simpa [B8, hc] using h, ?_⟩
  refine (hb.alloc hbase _).grown hg (by simp; omega) (fun k hk => (h1.lt k hk).1)

theorem ownsRow_shape {w : World} {base e n : Nat} {v : Value} {xs : List Value} (h : w.ownsRow base e 1 v (n + 1) xs) : ∃ g cap, v = .slice (some ⟨g, 0, none⟩) (n + 1) cap := by
  rcases h.2 with ⟨_, h0⟩ | ⟨g, cap, cur, hv, _⟩
  · omega
  · exact ⟨g, cap, hv⟩

theorem own_cells {w : World} {base : Nat} {l : List UInt8} {g n cap : Nat} (h : w.ownsRow base 5 1 (.slice (some ⟨g, 0, none⟩) n cap) l.length (B8 l)) : ∀ j (hj : j < l.length), w.cell? ((⟨g, 0, none⟩ : Addr).add j) = some (.int .u8 (l[j].toNat : Int)) := by
  intro j hj
  exact h.cells rfl j _ (by simp [B8, List.getElem?_eq_getElem hj])

set_option maxRecDepth 100000 in
set_option maxHeartbeats 2000000 in
theorem text_yes (y m d n : Int) (w : World) (hD : IsDate y m d n) (hn : n ≤ 99999) :
    Calls Try.prog 24 #[.int .i64 n] w fun e w' => e = .returned (.tuple #[.string ⟨(textL y m d).toArray⟩, .int .i64 0]) ∧ Below w.heap.size w w' := by
  obtain ⟨i0, hi, hz0, hz1, hz2⟩ := info_parts info8
  have hr := hD.range
  have hd := hD
  obtain ⟨a1, a2, a3, a4, a5, a6, a7⟩ := hd
  have hml := mlen_bd y m
  have HD := Lib.hid hD
  have HL4 := Lib.hid (digs_length 4 y)
  have HLm := Lib.hid (digs_length 2 m)
  have HLd := Lib.hid (digs_length 2 d)
  clear a7 hD
  go_enter Try.func24, Try.ntmps24
  go_wp2_with fail
  refine (parts_yes y m d n _ HD.out hn).mono ?_
  rintro e w1 ⟨rfl, hb1⟩
  have hs1 := hb1.size
  go_wp2_with fail
  refine (digits_any 3 y 4 w.heap.size (.slice none 0 0) [] w1 (by omega) (by omega) (by omega) (by omega) (by simp) (World.ownsRow_nil _ _ _ _) hs1).mono ?_
  rintro e w2 ⟨v2, rfl, hown2, hb2⟩
  have hs2 := hb2.size
  have hown2 : w2.ownsRow w.heap.size 5 1 v2 (digs 4 y).length (B8 (digs 4 y)) := hown2
  have H2 := Lib.hid (digs_length 4 y)
  go_wp2_with (at_builtin; go_must (refine wpList_append_own _ rfl _ _ 56 rfl w.heap.size 5 i0 (.int .u8 0) 1 1 Try.underlying56 hi hz0 hz1 hz2 rfl (by decide) _ _ _ rfl (hown2.alloc _) ⟨w2.heap.size, 0, none⟩ 1 1 [.int .u8 45] rfl rfl (cell_one_new _ _ _) (by simp [Value.oneCell']) (by unfold maxLen; have := H2.out; omega) (by have := H2.out; omega) (by simp; omega) ?_); intro v3 w3 hown3 hgrow3 _)
  obtain ⟨hown3, hb3⟩ := own_byte (c := 45) rfl hb2 hown3 hgrow3 hown2 (by omega)
  have hs3 := hb3.size
  go_wp2_with fail
  refine (digits_any 1 m 2 w.heap.size v3 _ w3 (by omega) (by omega) (by omega) (by omega) (by simp [digs_length]) hown3 (by omega)).mono ?_
  rintro e w4 ⟨v4, rfl, hown4, hb4⟩
  have hs4 := hb4.size
  have hown4 : w4.ownsRow w.heap.size 5 1 v4 (digs 4 y ++ [45] ++ digs 2 m).length (B8 (digs 4 y ++ [45] ++ digs 2 m)) := hown4
  have H4 := Lib.hid (show (digs 4 y ++ [45] ++ digs 2 m).length = 7 by simp [digs_length])
  go_wp2_with (at_builtin; go_must (refine wpList_append_own _ rfl _ _ 56 rfl w.heap.size 5 i0 (.int .u8 0) 1 1 Try.underlying56 hi hz0 hz1 hz2 rfl (by decide) _ _ _ rfl (hown4.alloc _) ⟨w4.heap.size, 0, none⟩ 1 1 [.int .u8 45] rfl rfl (cell_one_new _ _ _) (by simp [Value.oneCell']) (by unfold maxLen; have := H4.out; omega) (by have := H4.out; omega) (by simp; omega) ?_); intro v5 w5 hown5 hgrow5 _)
  obtain ⟨hown5, hb5⟩ := own_byte (c := 45) rfl hb4 hown5 hgrow5 hown4 (by omega)
  have hs5 := hb5.size
  go_wp2_with fail
  refine (digits_any 1 d 2 w.heap.size v5 _ w5 (by omega) (by omega) (by omega) (by omega) (by simp [digs_length]) hown5 (by omega)).mono ?_
  rintro e w6 ⟨v6, rfl, hown6, hb6⟩
  have hown6 : w6.ownsRow w.heap.size 5 1 v6 (textL y m d).length (B8 (textL y m d)) := hown6
  have hl := textL_length y m d
  rw [hl] at hown6
  obtain ⟨g, cap, rfl⟩ := ownsRow_shape hown6
  rw [← hl] at hown6
  have hcv := run_convert_bytes_back (P := Try.prog) w6 56 9 5 ⟨g, 0, none⟩ cap (textL y m d) Try.underlying56 Try.underlying5 Try.underlying9 (own_cells hown6)
  rw [hl] at hcv
  clear hl
  go_wp2
  go_ret2
  exact ⟨rfl, hb1.trans (hb3.trans (hb5.trans hb6))⟩
end Go.Proofs.Ytaogoednndlaeaa.Dt
