/-
  Plain arithmetic of dates: no program in sight. Leap years, lengths of months, the number of a day, and that a number of a day has just one date.
-/
namespace Go.Proofs.Ytainmmdlbajpnaa.Dt

/-- is it a leap year? -/
def leap (y : Int) : Bool := y % 4 == 0 && (y % 100 != 0 || y % 400 == 0)
def feb (y : Int) : Int := if leap y then 29 else 28
/-- the number of days of a month -/
def mlen (y m : Int) : Int := if m = 2 then feb y else if m = 4 ∨ m = 6 ∨ m = 9 ∨ m = 11 then 30 else 31
def leaps (y : Int) : Int := y / 4 - y / 100 + y / 400
/-- the day on which a year begins -/
def first (y : Int) : Int := 365 * (y - 1900) + leaps (y - 1) - 460
/-- the days of a year ahead of a month -/
def cum (y m : Int) : Int :=
  if m ≤ 1 then 0 else if m = 2 then 31 else (if m = 3 then 31 else if m = 4 then 62 else if m = 5 then 92 else if m = 6 then 123 else if m = 7 then 153 else if m = 8 then 184
    else if m = 9 then 215 else if m = 10 then 245 else if m = 11 then 276 else if m = 12 then 306 else 337) + feb y
def dnum (y m d : Int) : Int := first y + cum y m + d - 1
/-- y, m, d is the date of the day n -/
def IsDate (y m d n : Int) : Prop := 1900 ≤ y ∧ y ≤ 2173 ∧ 1 ≤ m ∧ m ≤ 12 ∧ 1 ≤ d ∧ d ≤ mlen y m ∧ dnum y m d = n

theorem leap_iff (y : Int) : leap y = true ↔ y % 4 = 0 ∧ (y % 100 ≠ 0 ∨ y % 400 = 0) := by
  simp [leap, bne_iff_ne]

theorem feb_cases (y : Int) : (feb y = 29 ∧ leap y = true) ∨ (feb y = 28 ∧ leap y = false) := by
  unfold feb
  cases h : leap y <;> simp

theorem feb_bd (y : Int) : 28 ≤ feb y ∧ feb y ≤ 29 := by
  rcases feb_cases y with ⟨h, _⟩ | ⟨h, _⟩ <;> omega

theorem leaps_succ (y : Int) : leaps y = leaps (y - 1) + (feb y - 28) := by
  have h := leap_iff y
  rcases feb_cases y with ⟨h1, h2⟩ | ⟨h1, h2⟩
  · have h3 := h.1 h2
    unfold leaps
    omega
  · have h3 : ¬ (y % 4 = 0 ∧ (y % 100 ≠ 0 ∨ y % 400 = 0)) := fun k => by rw [h.2 k] at h2; cases h2
    unfold leaps
    omega

theorem first_succ (y : Int) : first (y + 1) = first y + 337 + feb y := by
  have h := leaps_succ y
  have e : y + 1 - 1 = y := by omega
  unfold first
  rw [e]
  omega

theorem first_1900 : first 1900 = 0 := by decide
theorem first_2173 : first 2173 = 99712 := by decide
theorem first_2174 : first 2174 = 100077 := by decide

theorem first_lower (y : Int) (h : 1900 ≤ y) : 365 * (y - 1900) ≤ first y := by
  unfold first leaps
  omega
theorem first_upper (y : Int) (h : 1900 ≤ y) : first y ≤ 366 * (y - 1900) := by
  unfold first leaps
  omega

theorem first_mono (a b : Int) (h : a ≤ b) : first a ≤ first b := by
  unfold first leaps
  omega

theorem mlen_bd (y m : Int) : 28 ≤ mlen y m ∧ mlen y m ≤ 31 := by
  have := feb_bd y
  unfold mlen
  split
  · omega
  · split <;> omega

theorem cum_one (y : Int) : cum y 1 = 0 := by simp [cum]
theorem cum_13 (y : Int) : cum y 13 = 337 + feb y := by simp [cum]

/-- whoever knows that m is a month may look at each one alone -/
theorem month_cases {m : Int} (h1 : 1 ≤ m) (h2 : m ≤ 12) : m = 1 ∨ m = 2 ∨ m = 3 ∨ m = 4 ∨ m = 5 ∨ m = 6 ∨ m = 7 ∨ m = 8 ∨ m = 9 ∨ m = 10 ∨ m = 11 ∨ m = 12 := by omega

theorem cum_succ (y m : Int) (h1 : 1 ≤ m) (h2 : m ≤ 12) : cum y (m + 1) = cum y m + mlen y m := by
  rcases month_cases h1 h2 with rfl | rfl | rfl | rfl | rfl | rfl | rfl | rfl | rfl | rfl | rfl | rfl <;> simp [cum, mlen] <;> omega

theorem cum_bd (y m : Int) (h1 : 1 ≤ m) (h2 : m ≤ 13) : 0 ≤ cum y m ∧ cum y m ≤ 337 + feb y := by
  have := feb_bd y
  by_cases h : m = 13
  · subst h
    rw [cum_13]
    omega
  · rcases month_cases h1 (show m ≤ 12 by omega) with rfl | rfl | rfl | rfl | rfl | rfl | rfl | rfl | rfl | rfl | rfl | rfl <;> simp [cum] <;> omega

theorem cum_le (y a : Int) (h1 : 1 ≤ a) (k : Nat) (h : a + k ≤ 13) : cum y a ≤ cum y (a + k) := by
  induction k with
  | zero => simp
  | succ k ih =>
    have e : a + ((k + 1 : Nat) : Int) = a + k + 1 := by omega
    have h2 := cum_succ y (a + k) (by omega) (by omega)
    have h3 := mlen_bd y (a + k)
    have h4 := ih (by omega)
    rw [e]
    omega

theorem cum_mono (y a b : Int) (h1 : 1 ≤ a) (h : a < b) (h2 : b ≤ 13) : cum y a + mlen y a ≤ cum y b := by
  rw [← cum_succ y a h1 (by omega)]
  have h3 := cum_le y (a + 1) (by omega) (b - (a + 1)).toNat (by omega)
  have e : a + 1 + ((b - (a + 1)).toNat : Int) = b := by omega
  rw [e] at h3
  exact h3

/-- a date lies in its year -/
theorem IsDate.year {y m d n : Int} (h : IsDate y m d n) : first y ≤ n ∧ n < first (y + 1) := by
  obtain ⟨a, b, c, e, f, g, k⟩ := h
  have h1 := cum_bd y m c (by omega)
  have h2 := cum_succ y m c e
  have h3 := cum_bd y (m + 1) (by omega) (by omega)
  have h4 := first_succ y
  unfold dnum at k
  omega

theorem IsDate.month {y m d n : Int} (h : IsDate y m d n) : first y + cum y m ≤ n ∧ n < first y + cum y m + mlen y m := by
  obtain ⟨a, b, c, e, f, g, k⟩ := h
  unfold dnum at k
  omega

theorem IsDate.unique {y m d y' m' d' n : Int} (h : IsDate y m d n) (h' : IsDate y' m' d' n) : y = y' ∧ m = m' ∧ d = d' := by
  have a := h.year
  have a' := h'.year
  have hy : y = y' := by
    rcases Int.lt_trichotomy y y' with k | k | k
    · have := first_mono (y + 1) y' (by omega)
      omega
    · exact k
    · have := first_mono (y' + 1) y (by omega)
      omega
  subst hy
  have b := h.month
  have b' := h'.month
  obtain ⟨_, _, c1, c2, c3, c4, c5⟩ := h
  obtain ⟨_, _, d1, d2, d3, d4, d5⟩ := h'
  have hm : m = m' := by
    rcases Int.lt_trichotomy m m' with k | k | k
    · have := cum_mono y m m' c1 k (by omega)
      omega
    · exact k
    · have := cum_mono y m' m d1 k (by omega)
      omega
  subst hm
  unfold dnum at c5 d5
  exact ⟨rfl, rfl, by omega⟩

theorem year_exists (n : Int) (h0 : 0 ≤ n) (h1 : n < first 2174) : ∃ y, 1900 ≤ y ∧ y ≤ 2173 ∧ first y ≤ n ∧ n < first (y + 1) := by
  have H : ∀ k : Nat, (k : Int) ≤ 273 → first (2173 - k) ≤ n → ∃ y, 1900 ≤ y ∧ y ≤ 2173 ∧ first y ≤ n ∧ n < first (y + 1) := by
    intro k
    induction k with
    | zero => intro _ h; exact ⟨2173, by omega, by omega, by simpa using h, h1⟩
    | succ k ih =>
      intro hk h
      by_cases g : first (2173 - k) ≤ n
      · exact ih (by omega) g
      · refine ⟨2173 - (k + 1 : Nat), by omega, by omega, h, ?_⟩
        have e : 2173 - ((k + 1 : Nat) : Int) + 1 = 2173 - k := by omega
        rw [e]
        omega
  exact H 273 (by omega) (by have : first (2173 - (273 : Nat)) = 0 := by decide
                             omega)

theorem month_exists (y r : Int) (h0 : 0 ≤ r) (h1 : r < cum y 13) : ∃ m, 1 ≤ m ∧ m ≤ 12 ∧ cum y m ≤ r ∧ r < cum y (m + 1) := by
  have H : ∀ k : Nat, (k : Int) ≤ 11 → cum y (12 - k) ≤ r → ∃ m, 1 ≤ m ∧ m ≤ 12 ∧ cum y m ≤ r ∧ r < cum y (m + 1) := by
    intro k
    induction k with
    | zero => intro _ h; exact ⟨12, by omega, by omega, by simpa using h, h1⟩
    | succ k ih =>
      intro hk h
      by_cases g : cum y (12 - k) ≤ r
      · exact ih (by omega) g
      · refine ⟨12 - (k + 1 : Nat), by omega, by omega, h, ?_⟩
        have e : 12 - ((k + 1 : Nat) : Int) + 1 = 12 - k := by omega
        rw [e]
        omega
  exact H 11 (by omega) (by have : cum y (12 - (11 : Nat)) = 0 := cum_one y
                            omega)

theorem date_exists (n : Int) (h0 : 0 ≤ n) (h1 : n ≤ 99999) : ∃ y m d, IsDate y m d n := by
  obtain ⟨y, a, b, c, e⟩ := year_exists n h0 (by rw [first_2174]; omega)
  have h2 := first_succ y
  obtain ⟨m, f, g, i, j⟩ := month_exists y (n - first y) (by omega) (by rw [cum_13]; omega)
  have h3 := cum_succ y m f g
  exact ⟨y, m, n - first y - cum y m + 1, a, b, f, g, by omega, by omega, by unfold dnum; omega⟩

theorem IsDate.mk {y m d : Int} (a : 1900 ≤ y) (b : y ≤ 2173) (c : 1 ≤ m) (e : m ≤ 12) (f : 1 ≤ d) (g : d ≤ mlen y m) : IsDate y m d (dnum y m d) := ⟨a, b, c, e, f, g, rfl⟩

theorem IsDate.range {y m d n : Int} (h : IsDate y m d n) : 0 ≤ n ∧ n ≤ 100076 := by
  have a := h.year
  obtain ⟨b, c, _⟩ := h
  have h1 := first_mono 1900 y (by omega)
  have h2 := first_mono (y + 1) 2174 (by omega)
  rw [first_1900] at h1
  rw [first_2174] at h2
  omega

theorem IsDate.num {y m d n : Int} (h : IsDate y m d n) : dnum y m d = n := h.2.2.2.2.2.2

theorem last_year0 (z n : Int) (h : first z ≤ n) (hn : n ≤ 99999) : z ≤ 2173 := by
  rcases Int.lt_or_le 2173 z with k | k
  · have := first_mono 2174 z (by omega)
    rw [first_2174] at this
    omega
  · exact k

/-- is it a date that the chapter lets? -/
def vld (y m d : Int) : Bool := decide (1900 ≤ y ∧ y ≤ 2173 ∧ 1 ≤ m ∧ m ≤ 12 ∧ 1 ≤ d ∧ d ≤ mlen y m ∧ dnum y m d ≤ 99999)
theorem vld_iff (y m d : Int) : vld y m d = true ↔ (1900 ≤ y ∧ y ≤ 2173 ∧ 1 ≤ m ∧ m ≤ 12 ∧ 1 ≤ d ∧ d ≤ mlen y m ∧ dnum y m d ≤ 99999) := by
  unfold vld
  exact decide_eq_true_iff
/-- what Of gives: the day, and the error -/
def ofV (y m d : Int) : Int := if vld y m d then dnum y m d else 0
def ofE (y m d : Int) : Int := if vld y m d then 0 else 2
end Go.Proofs.Ytainmmdlbajpnaa.Dt
