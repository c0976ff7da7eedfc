/-
  The walk of schedule.Find.
-/
import Derived.Test.YtainmmdlbajpnaaScJ
import Derived.Test.YtainmmdlbajpnaaBs
namespace Go.Proofs.Ytainmmdlbajpnaa.Sc
open Go.RowKit Go.Lib Go.Proofs.Ytainmmdlbajpnaa Go.Proofs.Ytainmmdlbajpnaa.Ls Go.Proofs.Ytainmmdlbajpnaa.Kb
open Go.Proofs.Ytainmmdlbajpnaa.Dt hiding ret_bool ret_int

/-- the place of a number in an ordered list -/
theorem place_of (L : List Int) (hL : L.Pairwise (· < ·)) (i : Nat) (hi : i + 1 < L.length) (x : Int) (h1 : L.getD i 0 ≤ x) (h2 : x < L.getD (i + 1) 0) :
    (L.countP (· < x) = if L.contains x then i else i + 1) ∧ (L.contains x = decide (L.getD i 0 = x)) := by
  have hat : ∀ a b, a < b → b < L.length → L.getD a 0 < L.getD b 0 := fun a b hab hb => by
    have := List.pairwise_iff_getElem.1 hL a b (by omega) hb hab
    rw [List.getD_eq_getElem?_getD, List.getD_eq_getElem?_getD, List.getElem?_eq_getElem (by omega), List.getElem?_eq_getElem hb]
    exact this
  have hc : L.contains x = decide (L.getD i 0 = x) := by
    rw [Bool.eq_iff_iff, List.contains_iff_mem, decide_eq_true_eq]
    constructor
    · intro hm
      obtain ⟨j, hj, he⟩ := List.mem_iff_getElem.1 hm
      have he' : L.getD j 0 = x := by rw [List.getD_eq_getElem?_getD, List.getElem?_eq_getElem hj]; exact he
      rcases Nat.lt_trichotomy j i with h | h | h
      · have := hat j i h (by omega)
        omega
      · rw [← h]; exact he'
      · rcases Nat.lt_or_ge (i + 1) j with g | g
        · have := hat (i + 1) j g hj
          omega
        · obtain rfl : j = i + 1 := by omega
          omega
    · intro he
      rw [← he, List.getD_eq_getElem?_getD, List.getElem?_eq_getElem (show i < L.length by omega)]
      exact List.getElem_mem _
  refine ⟨?_, hc⟩
  have hsplit : L = L.take i ++ (L.getD i 0 :: L.drop (i + 1)) := by
    rw [List.getD_eq_getElem?_getD, List.getElem?_eq_getElem (show i < L.length by omega)]
    simp
  have ha : (L.take i).countP (· < x) = i := by
    have : (L.take i).countP (· < x) = (L.take i).length := by
      rw [List.countP_eq_length]
      intro y hy
      obtain ⟨j, hj, he⟩ := List.mem_iff_getElem.1 hy
      rw [List.length_take] at hj
      rw [List.getElem_take] at he
      have := hat j i (by omega) (by omega)
      rw [List.getD_eq_getElem?_getD, List.getElem?_eq_getElem (show j < L.length by omega)] at this
      simp only [Option.getD_some] at this
      rw [he] at this
      simp
      omega
    rw [this, List.length_take]
    omega
  have hb : (L.drop (i + 1)).countP (· < x) = 0 := by
    rw [List.countP_eq_zero]
    intro y hy
    obtain ⟨j, hj, he⟩ := List.mem_iff_getElem.1 hy
    rw [List.length_drop] at hj
    rw [List.getElem_drop] at he
    have : L.getD (i + 1) 0 ≤ y := by
      rw [← he]
      cases j with
      | zero =>
        rw [List.getD_eq_getElem?_getD, List.getElem?_eq_getElem (show i + 1 < L.length by omega)]
        exact Int.le_refl _
      | succ j =>
        have := hat (i + 1) (i + 1 + (j + 1)) (by omega) (by omega)
        rw [List.getD_eq_getElem?_getD (l := L) (i := i + 1 + (j + 1)), List.getElem?_eq_getElem (show i + 1 + (j + 1) < L.length by omega)] at this
        exact Int.le_of_lt this
    simp
    omega
  rw [hc]
  conv => lhs; rw [hsplit]
  rw [List.countP_append, ha, List.countP_cons, hb]
  by_cases he : L.getD i 0 = x
  · rw [he]
    simp
  · have hlt : L.getD i 0 < x := by omega
    rw [decide_eq_false he, if_pos (decide_eq_true hlt)]
    simp

/-- the days of a description are in order -/
theorem dl_sorted {s : Sch} {y m d : Int} {N n : Nat} (hY : DYes s y m d N) (hn : n ≤ N) : (dL s y m d n).Pairwise (· < ·) := by
  have hup : ∀ (j i : Nat), i + j + 1 ≤ n + 1 → (dL s y m d n).getD i 0 < (dL s y m d n).getD (i + j + 1) 0 := fun j => by
    induction j with
    | zero => exact fun i h => dl_lt hY hn i (by omega)
    | succ j ih =>
      intro i h
      have h1 := ih i (by omega)
      have h2 := dl_lt hY hn (i + j + 1) (by omega)
      rw [show i + (j + 1) + 1 = i + j + 1 + 1 by omega]
      omega
  rw [List.pairwise_iff_getElem]
  intro i j hi hj hij
  have hl := dl_len s y m d n
  have := hup (j - i - 1) i (by omega)
  rw [show i + (j - i - 1) + 1 = j by omega, List.getD_eq_getElem?_getD, List.getD_eq_getElem?_getD, List.getElem?_eq_getElem hi, List.getElem?_eq_getElem hj] at this
  exact this
theorem find_place (f : Nat → Int) (m : Nat) (x : Int) (h0 : f 0 ≤ x) (h1 : x < f m) : ∃ i, i < m ∧ f i ≤ x ∧ x < f (i + 1) := by
  induction m with
  | zero => omega
  | succ m ih =>
    by_cases h : x < f m
    · obtain ⟨i, a, b⟩ := ih h
      exact ⟨i, by omega, b⟩
    · exact ⟨m, by omega, by omega, h1⟩

/-- what Find returns -/
def FRes (s : Sch) (L : List Int) (g x : Int) (i e : Int) : Prop :=
  (g ≠ 0 ∧ i = 0 ∧ e = g) ∨ (g = 0 ∧ (x < 0 ∨ 99999 < x) ∧ i = 0 ∧ e = 2) ∨ (g = 0 ∧ 0 ≤ x ∧ x ≤ 99999 ∧ (x < s.S ∨ s.E ≤ x) ∧ i = 0 ∧ e = 6) ∨
    (g = 0 ∧ 0 ≤ x ∧ x ≤ 99999 ∧ s.S ≤ x ∧ x < s.E ∧ e = 0 ∧ ∃ j : Nat, i = j ∧ j + 1 < L.length ∧ L.getD j 0 ≤ x ∧ x < L.getD (j + 1) 0)
/-- what is known of the days where there are any -/
structure LOk (s : Sch) (L : List Int) : Prop where
  len : 2 ≤ L.length ∧ L.length ≤ 100
  first : L.getD 0 0 = s.S
  last : L.getD (L.length - 1) 0 = s.E
  srt : L.Pairwise (· < ·)
theorem lok_of {s : Sch} {L : List Int} (h : DRes s L 0) : LOk s L := by
  rcases h with ⟨_, _, h⟩ | ⟨y, m, d, N, hY, ⟨hk, rfl, _⟩ | ⟨_, _, h⟩⟩
  · cases h
  · have hl := dl_len s y m d (kn s y m d N)
    refine ⟨by omega, dl_zero _ _ _ _ _, ?_, dl_sorted hY (kn_le _ _ _ _ _)⟩
    rw [hl]
    exact dl_last s y m d _
  · cases h
theorem fres_exists (s : Sch) (L : List Int) (g x : Int) (h : DRes s L g) : ∃ i e, FRes s L g x i e := by
  by_cases hg : g = 0
  · subst hg
    by_cases h1 : x < 0 ∨ 99999 < x
    · exact ⟨_, _, .inr (.inl ⟨rfl, h1, rfl, rfl⟩)⟩
    · by_cases h2 : x < s.S ∨ s.E ≤ x
      · exact ⟨_, _, .inr (.inr (.inl ⟨rfl, by omega, by omega, h2, rfl, rfl⟩))⟩
      · have hL := lok_of h
        obtain ⟨j, a, b, c⟩ := find_place (fun k => L.getD k 0) (L.length - 1) x (by show L.getD 0 0 ≤ x; rw [hL.first]; omega) (by show x < L.getD (L.length - 1) 0; rw [hL.last]; omega)
        exact ⟨_, _, .inr (.inr (.inr ⟨rfl, by omega, by omega, by omega, by omega, rfl, j, rfl, by omega, b, c⟩))⟩
  · exact ⟨_, _, .inl ⟨hg, rfl, rfl⟩⟩

set_option maxRecDepth 100000 in
set_option maxHeartbeats 2000000 in
theorem find_any (s : Sch) (L : List Int) (g x i e : Int) (w : World) (hS : SchAt w s) (hR : DRes s L g) (hF : FRes s L g x i e) :
    Calls Try.prog 15 #[.agg s.cells, .int .i64 x] w fun o w' => o = .returned (.tuple #[.int .i64 i, .int .i64 e]) ∧ Below w.heap.size w w' := by
  have HD := Lib.hid (fun (w' : World) (h : SchAt w' s) => dates_any s L g w' h hR)
  have HR := Lib.hid hR
  have HS := Lib.hid hS
  have HF := Lib.hid hF
  clear hS hR hF
  obtain ⟨S, E, Mo, back, last, stub, roll, wk, a, c, hs⟩ := s
  simp only [Sch.cells] at *
  have hbo : Below w.heap.size w (w.alloc (.cells #[.int .i64 S, .int .i64 E, .int .i64 Mo, .bool back, .bool last, .int .u8 stub, .int .u8 roll, .int .u8 wk, .slice a hs.length c] 26)) := (Below.refl _ _).alloc (Nat.le_refl _) _
  have hx := blk_new w (.cells #[.int .i64 S, .int .i64 E, .int .i64 Mo, .bool back, .bool last, .int .u8 stub, .int .u8 roll, .int .u8 wk, .slice a hs.length c] 26)
  go_enter Try.func15, Try.ntmps15
  go_wp2_with fail
  generalize w.alloc _ = wo at hbo hx ⊢
  refine (HD.out wo (HS.out.below hbo)).mono ?_
  rintro o w1 ⟨da, dc, rfl, ho, hb1⟩
  have c1 := bt hbo hb1 (Nat.le_refl _)
  have HO := Lib.hid (ho.sl ic_len).1
  have hx := blk_keep hx hb1
  have x0 := cell_of hx 0 _ rfl
  have x1 := cell_of hx 1 _ rfl
  clear hb1 hbo hx ho HD HS
  rcases HF.out with ⟨hg, rfl, rfl⟩ | ⟨rfl, hx, rfl, rfl⟩ | ⟨rfl, h1, h2, h3, rfl, rfl⟩ | ⟨rfl, h1, h2, h3, h4, rfl, j, rfl, hj, h5, h6⟩
  · clear HF
    go_wp2
    go_ret2
    exact ⟨rfl, c1⟩
  · clear HF
    have hx' : ¬ (0 ≤ x ∧ x ≤ 99999) := by omega
    go_wp2
    all_goals
      first
        | (exact absurd hx (by omega))
        | (go_ret2
           exact ⟨rfl, c1⟩)
  · clear HF
    simp only at h3
    go_wp2
    all_goals
      first
        | (exact absurd h3 (by omega))
        | (go_ret2
           exact ⟨rfl, c1⟩)
  · have hL := lok_of HR.out
    clear HF HR
    simp only at h3 h4
    obtain ⟨b, off, rfl, _⟩ := at_int HO.out 0 (by have := hL.len; omega)
    have HP := Lib.hid (place_of L hL.srt j hj x h5 h6)
    have hlen := hL.len
    have HSR := Lib.hid (search_any b off L.length dc L x w1 (Nat.le_refl _) (by omega) (fun k hk => at_int' HO.out k hk) (by rw [List.take_length]; exact hL.srt.imp (fun h => Int.le_of_lt h)))
    rw [List.take_length, HP.out.1, HP.out.2] at HSR
    clear hL h5 h6
    go_wp2_with fail
    refine Calls.mono HSR.out ?_
    rintro o w2 ⟨rfl, q, rfl⟩
    by_cases he : L.getD j 0 = x
    · rw [decide_eq_true he, if_pos rfl]
      go_wp2
      go_ret2
      exact ⟨rfl, below_drewN c1 _⟩
    · rw [decide_eq_false he, if_neg (by simp)]
      go_wp2
      go_ret2
      exact ⟨by simp, below_drewN c1 _⟩

end Go.Proofs.Ytainmmdlbajpnaa.Sc
