/-
  The walks of package date: Of, Parts, Weekday.
-/
import Derived.Test.YtainmmdlbajpnaaDateW1
namespace Go.Proofs.Ytainmmdlbajpnaa.Dt
open Go.RowKit Go.Proofs.Ytainmmdlbajpnaa

theorem ret_pair {a b c d : Int} (h : a = b) (k : c = d) : Ending.returned (.tuple #[.int .i64 a, .int .i64 c]) = .returned (.tuple #[.int .i64 b, .int .i64 d]) := by rw [h, k]

/-- the row that lengths hands back, as a list -/
def lrow (y : Int) (k : Nat) : Int := if k = 0 then 0 else mlen y k
def lens (y : Int) : Array Value := #[.int .i64 0, .int .i64 31, .int .i64 (feb y), .int .i64 31, .int .i64 30, .int .i64 31, .int .i64 30, .int .i64 31, .int .i64 31, .int .i64 30, .int .i64 31, .int .i64 30, .int .i64 31]
theorem cell_lens (y : Int) (w : World) (k : Nat) (h : k ≤ 12) : (w.alloc (.cells (lens y) 61)).cell? ⟨w.heap.size, k, none⟩ = some (.int .i64 (lrow y k)) := by
  have e : (w.alloc (.cells (lens y) 61)).cell? ⟨w.heap.size, k, none⟩ = (lens y)[k]? := World.cell?_alloc_new w _ _ _
  rw [e]
  rcases (show k = 0 ∨ k = 1 ∨ k = 2 ∨ k = 3 ∨ k = 4 ∨ k = 5 ∨ k = 6 ∨ k = 7 ∨ k = 8 ∨ k = 9 ∨ k = 10 ∨ k = 11 ∨ k = 12 by omega) with rfl | rfl | rfl | rfl | rfl | rfl | rfl | rfl | rfl | rfl | rfl | rfl | rfl <;> simp [lens, lrow, mlen]
theorem cum_row (y : Int) (k : Nat) (h : k ≤ 12) : cum y ((k : Int) + 1) = cum y k + lrow y k := by
  by_cases h0 : k = 0
  · subst h0
    simp [cum, lrow]
  · rw [cum_succ y k (by omega) (by omega)]
    simp [lrow, h0]
theorem lrow_bd (y : Int) (k : Nat) : 0 ≤ lrow y k ∧ lrow y k ≤ 31 := by
  have := mlen_bd y k
  unfold lrow
  split <;> omega
theorem cum_bd0 (y : Int) (k : Nat) (h : k ≤ 13) : 0 ≤ cum y k ∧ cum y k ≤ 366 := by
  have := feb_bd y
  by_cases h0 : k = 0
  · subst h0
    simp [cum]
  · have := cum_bd y k (by omega) (by omega)
    omega
theorem first_bd (y : Int) (h0 : 1900 ≤ y) (h1 : y ≤ 2174) : 0 ≤ first y ∧ first y ≤ 100077 := by
  have h1 := first_mono 1900 y (by omega)
  have h2 := first_mono y 2174 (by omega)
  rw [first_1900] at h1
  rw [first_2174] at h2
  omega

/-- the head of the array of lengths, as a slice -/
theorem slice_lens (n : Nat) (h : n ≤ 12) (a : Addr) (w : World) :
    (Instr.sliceAt 61 (.pointer (some a)) none (some (.int .i64 (n : Int))) none).run Try.prog w = .ok (.slice (some a) n 13) w := by
  have hl : Try.prog.arrayLen 61 = 13 := by kernel_rfl
  have hs : (sizeOf (Try.prog.elem 61)).run Try.prog w = .ok 1 w := by kernel_rfl
  rw [run_sliceAt_array_h w 61 a (by kernel_rfl) .i64 n (by omega) (by rw [hl]; omega), hs, hl]
  simp [slicedAt, Addr.add]

theorem of_val (y m d : Int) (h0 : 1900 ≤ y) (h1 : y ≤ 2173) (h2 : 1 ≤ m) (h3 : m ≤ 12) (h4 : 1 ≤ d) (h5 : d ≤ mlen y m) :
    (dnum y m d ≤ 99999 → ofV y m d = dnum y m d ∧ ofE y m d = 0) ∧ (99999 < dnum y m d → ofV y m d = 0 ∧ ofE y m d = 2) := by
  have hv := vld_iff y m d
  unfold ofV ofE
  refine ⟨fun h => ?_, fun h => ?_⟩
  · rw [if_pos (hv.2 ⟨h0, h1, h2, h3, h4, h5, h⟩), if_pos (hv.2 ⟨h0, h1, h2, h3, h4, h5, h⟩)]
    exact ⟨rfl, rfl⟩
  · have hn : ¬ vld y m d = true := fun k => by have := hv.1 k; omega
    rw [if_neg hn, if_neg hn]
    exact ⟨rfl, rfl⟩

set_option maxHeartbeats 1000000 in
theorem of_mid (y m d : Int) (w : World) (h0 : 1900 ≤ y) (h1 : y ≤ 2173) (h2 : 1 ≤ m) (h3 : m ≤ 12) (h4 : 1 ≤ d) (h5 : d ≤ mlen y m) :
    Calls Try.prog 31 #[.int .i64 y, .int .i64 m, .int .i64 d] w fun e w' =>
      e = .returned (.tuple #[.int .i64 (ofV y m d), .int .i64 (ofE y m d)]) ∧ Below w.heap.size w w' := by
  have hl := mlen_bd y m
  have hf := first_bd y h0 (by omega)
  obtain ⟨n, rfl⟩ := Int.eq_ofNat_of_zero_le (show 0 ≤ m by omega)
  have HF := Lib.hid (of_val y n d h0 h1 h2 h3 h4 h5)
  go_enter Try.func31, Try.ntmps31
  go_wp2_with fail
  refine (length_yes y n _ h0 h1 h2 h3).mono ?_
  rintro e w1 ⟨rfl, hb1⟩
  go_wp2_with fail
  refine (first_any y _ h0 (by omega)).mono ?_
  rintro e w' ⟨rfl, rfl⟩
  go_wp2_with fail
  refine (lengths_any y _).mono ?_
  rintro e w2 ⟨rfl, hb2⟩
  have hsl := slice_lens n (by omega)
  have HC := Lib.hid (cell_lens y w2)
  have HB : Below w.heap.size w w2 := hb1.trans (hb2.mono hb1.size)
  have HB2 : Below w.heap.size w (w2.alloc (.cells (lens y) 61)) := HB.alloc HB.size _
  have hc0 := cum_bd0 y n (by omega)
  have hD : dnum y n d = first y + cum y n + d - 1 := rfl
  have HD := Lib.hid hD
  clear hD
  clear hb1 hb2 HB
  go_wp2_with fail
  unfold lens at HC HB2
  generalize w2.alloc _ = wo at HC HB2 ⊢
  go_loop [10, 13, 41] (fun a _ i => ∃ k : Nat, k ≤ n ∧ i = .int .i64 k ∧ a = .int .i64 (first y + d - 1 + cum y k)) (fun _ _ i => n - (intOf i).toNat)
  case atStart => exact ⟨0, Nat.zero_le _, rfl, by simp [cum]⟩
  case round =>
    obtain ⟨k, hk, rfl, rfl⟩ := hrel
    have hb := cum_bd0 y k (by omega)
    by_cases hlt : k < n
    · have hc := HC.out k (by omega)
      have hr := lrow_bd y k
      have HR := Lib.hid (cum_row y k (by omega))
      go_wp2
      go_round
      case rel => exact ⟨k + 1, by omega, by go_num, by have := HR.out; go_num⟩
      case measure => simp [intOf]; omega
    · obtain rfl : k = n := by omega
      go_wp2
      · have hd : 99999 < first y + d - 1 + cum y k := by assumption
        obtain ⟨e1, e2⟩ := HF.out.2 (by have := HD.out; omega)
        go_ret2
        exact ⟨ret_pair e1.symm e2.symm, HB2⟩
      · have hd : first y + d - 1 + cum y k ≤ 99999 := by assumption
        obtain ⟨e1, e2⟩ := HF.out.1 (by have := HD.out; omega)
        go_ret2
        exact ⟨ret_pair (by rw [e1, HD.out]; omega) e2.symm, HB2⟩

theorem of_zero (y m d : Int) (h : ¬ (1900 ≤ y ∧ y ≤ 2173 ∧ 1 ≤ m ∧ m ≤ 12 ∧ 1 ≤ d ∧ d ≤ mlen y m)) : ofV y m d = 0 ∧ ofE y m d = 2 := by
  have hn : ¬ vld y m d = true := fun k => h (by have := (vld_iff y m d).1 k; exact ⟨this.1, this.2.1, this.2.2.1, this.2.2.2.1, this.2.2.2.2.1, this.2.2.2.2.2.1⟩)
  unfold ofV ofE
  rw [if_neg hn, if_neg hn]
  exact ⟨rfl, rfl⟩

set_option maxHeartbeats 1000000 in
theorem of_any (y m d : Int) (w : World) :
    Calls Try.prog 31 #[.int .i64 y, .int .i64 m, .int .i64 d] w fun e w' =>
      e = .returned (.tuple #[.int .i64 (ofV y m d), .int .i64 (ofE y m d)]) ∧ Below w.heap.size w w' := by
  by_cases h : 1900 ≤ y ∧ y ≤ 2173 ∧ 1 ≤ m ∧ m ≤ 12 ∧ 1 ≤ d ∧ d ≤ mlen y m
  · obtain ⟨h0, h1, h2, h3, h4, h5⟩ := h
    exact of_mid y m d w h0 h1 h2 h3 h4 h5
  · obtain ⟨e1, e2⟩ := of_zero y m d h
    rw [e1, e2]
    clear e1 e2
    by_cases g : 1900 ≤ y ∧ y ≤ 2173 ∧ 1 ≤ m ∧ m ≤ 12
    · obtain ⟨h0, h1, h2, h3⟩ := g
      have hl := mlen_bd y m
      have hd : d < 1 ∨ mlen y m < d := by omega
      clear h
      by_cases hd1 : d < 1
      all_goals
        go_enter Try.func31, Try.ntmps31
        go_wp2_with fail
        refine (length_yes y m _ h0 h1 h2 h3).mono ?_
        rintro e w1 ⟨rfl, hb1⟩
        go_wp2
        go_ret2
        exact ⟨rfl, hb1⟩
    · have G := Lib.hid g
      clear g h
      go_enter Try.func31, Try.ntmps31
      go_wp2_with fail
      refine (length_no y m _ G.out).mono ?_
      rintro e w1 ⟨rfl, rfl⟩
      go_wp2
      go_ret2
      exact ⟨rfl, Below.refl _ _⟩

end Go.Proofs.Ytainmmdlbajpnaa.Dt
