/-
  Rolled days do not decrease.
-/
import Derived.Test.YtainmmdlbajpnaaClI
namespace Go.Proofs.Ytainmmdlbajpnaa.Sc
open Go.RowKit Go.Proofs.Ytainmmdlbajpnaa Go.Proofs.Ytainmmdlbajpnaa.Ls Go.Proofs.Ytainmmdlbajpnaa.Kb
open Go.Proofs.Ytainmmdlbajpnaa.Dt hiding ret_bool ret_int

theorem mid_month {y m da dc a b c : Int} (ha : IsDate y m da a) (hc : IsDate y m dc c) (h1 : a ≤ b) (h2 : b ≤ c) : ∃ db, IsDate y m db b := by
  obtain ⟨a1, a2, a3, a4, a5, a6, a7⟩ := ha
  obtain ⟨_, _, _, _, c5, c6, c7⟩ := hc
  unfold dnum at a7 c7
  exact ⟨da + (b - a), a1, a2, a3, a4, by omega, by omega, by unfold dnum; omega⟩
theorem sm_mid {x a b : Int} {s : Bool} (h : SM x a true) (hb : (x ≤ b ∧ b ≤ a) ∨ (a ≤ b ∧ b ≤ x)) (hs : SM x b s) : s = true := by
  obtain ⟨y1, m1, d1, y2, m2, d2, g1, g2, g3, g4, g5⟩ := h
  obtain ⟨y3, m3, d3, y4, m4, d4, k1, k2, k3, k4, k5⟩ := hs
  have e := g5.symm
  rw [Bool.and_eq_true, beq_iff_eq, beq_iff_eq] at e
  obtain ⟨rfl, rfl⟩ := e
  obtain ⟨rfl, rfl, _⟩ := g1.unique k1
  have hm : ∃ db, IsDate y1 m1 db b := by
    rcases hb with ⟨u, v⟩ | ⟨u, v⟩
    · exact mid_month g1 g3 u v
    · exact mid_month g3 g1 u v
  obtain ⟨db, hd⟩ := hm
  obtain ⟨rfl, rfl, _⟩ := hd.unique k3
  rw [k5]
  simp

theorem nbf {wk : Int} {hs : List Int} {d r : Int} (h : NB wk hs d 1 r 0) : inD r ∧ opB wk hs r = true ∧ d ≤ r ∧ ∀ t, d ≤ t → t < r → opB wk hs t = false := by
  cases h with
  | yes k h h1 h2 h3 h4 =>
    rw [Int.mul_one] at h1 h2 h3
    subst h3
    refine ⟨h1, h2, by omega, fun t a b => ?_⟩
    have := (h (t - d).toNat (by omega)).2
    rw [show d + ((t - d).toNat : Int) * 1 = t by omega] at this
    exact this
  | no K h h1 h3 h4 => exact absurd h4 (by decide)
theorem nbp {wk : Int} {hs : List Int} {d r : Int} (h : NB wk hs d (-1) r 0) : inD r ∧ opB wk hs r = true ∧ r ≤ d ∧ ∀ t, r < t → t ≤ d → opB wk hs t = false := by
  cases h with
  | yes k h h1 h2 h3 h4 =>
    have e : d + (k : Int) * -1 = d - k := by omega
    rw [e] at h1 h2 h3
    subst h3
    refine ⟨h1, h2, by omega, fun t a b => ?_⟩
    have := (h (d - t).toNat (by omega)).2
    rw [show d + ((d - t).toNat : Int) * -1 = t by omega] at this
    exact this
  | no K h h1 h3 h4 => exact absurd h4 (by decide)
theorem nbf_no {wk : Int} {hs : List Int} {d r : Int} (h : NB wk hs d 1 r 40) (hd : 0 ≤ d) : ∀ t, d ≤ t → t ≤ 99999 → opB wk hs t = false := fun t a b => by
  cases h with
  | yes k h h1 h2 h3 h4 => exact absurd h4 (by decide)
  | no K h h1 h3 h4 =>
    rw [Int.mul_one] at h1
    unfold inD at h1
    have := (h (t - d).toNat (by omega)).2
    rw [show d + ((t - d).toNat : Int) * 1 = t by omega] at this
    exact this
theorem nbp_no {wk : Int} {hs : List Int} {d r : Int} (h : NB wk hs d (-1) r 40) (hd : d ≤ 99999) : ∀ t, 0 ≤ t → t ≤ d → opB wk hs t = false := fun t a b => by
  cases h with
  | yes k h h1 h2 h3 h4 => exact absurd h4 (by decide)
  | no K h h1 h3 h4 =>
    unfold inD at h1
    have := (h (d - t).toNat (by omega)).2
    rw [show d + ((d - t).toNat : Int) * -1 = t by omega] at this
    exact this
theorem fwd_mono {wk : Int} {hs : List Int} {d e r q : Int} (h : NB wk hs d 1 r 0) (k : NB wk hs e 1 q 0) (hde : d ≤ e) : r ≤ q := by
  obtain ⟨_, h2, h3, h4⟩ := nbf h
  obtain ⟨_, k2, k3, k4⟩ := nbf k
  rcases Int.lt_or_le q r with g | g
  · exact absurd k2 (by rw [h4 q (by omega) g]; simp)
  · exact g
theorem bwd_mono {wk : Int} {hs : List Int} {d e r q : Int} (h : NB wk hs d (-1) r 0) (k : NB wk hs e (-1) q 0) (hde : d ≤ e) : r ≤ q := by
  obtain ⟨_, h2, h3, h4⟩ := nbp h
  obtain ⟨_, k2, k3, k4⟩ := nbp k
  rcases Int.lt_or_le q r with g | g
  · exact absurd h2 (by rw [k4 r g (by omega)]; simp)
  · exact g

theorem roll_mono {wk : Int} {hs : List Int} {d e rule r q : Int} (hd : inD d) (he : inD e) (h : RollR wk hs d rule r 0) (k : RollR wk hs e rule q 0) (hde : d ≤ e) : r ≤ q := by
  obtain ⟨n1, x1, p1, y1, s1, t1, hn1, hp1, hs1, ht1, hx1, hy1, hc⟩ := h
  obtain ⟨n2, x2, p2, y2, s2, t2, hn2, hp2, hs2, ht2, hx2, hy2, kc⟩ := k
  unfold inD at hd he
  rcases hc with ⟨rfl, rfl, _⟩ | ⟨rfl, rfl, rfl⟩ | ⟨rfl, rfl, rfl⟩ | ⟨rfl, hc⟩ | ⟨rfl, hc⟩
  · rcases kc with ⟨_, rfl, _⟩ | ⟨g, _⟩ | ⟨g, _⟩ | ⟨g, _⟩ | ⟨g, _⟩
    · exact hde
    all_goals omega
  · rcases kc with ⟨g, _⟩ | ⟨_, rfl, rfl⟩ | ⟨g, _⟩ | ⟨g, _⟩ | ⟨g, _⟩
    · omega
    · exact fwd_mono hn1 hn2 hde
    all_goals omega
  · rcases kc with ⟨g, _⟩ | ⟨g, _⟩ | ⟨_, rfl, rfl⟩ | ⟨g, _⟩ | ⟨g, _⟩
    · omega
    · omega
    · exact bwd_mono hp1 hp2 hde
    all_goals omega
  · rcases kc with ⟨g, _⟩ | ⟨g, _⟩ | ⟨g, _⟩ | ⟨_, kc⟩ | ⟨g, _⟩
    · omega
    · omega
    · omega
    · rcases hc with ⟨rfl, rfl, rfl, _⟩ | ⟨hnot, rfl, rfl⟩
      · rcases kc with ⟨rfl, rfl, rfl, _⟩ | ⟨knot, rfl, rfl⟩
        · exact fwd_mono hn1 hn2 hde
        · obtain ⟨a1, a2, a3, a4⟩ := nbf hn1
          obtain ⟨b1, b2, b3, b4⟩ := nbp hp2
          unfold inD at a1
          rcases Int.lt_or_le e r with g | g
          · exfalso
            rcases hx2 with rfl | rfl
            · obtain ⟨c1, c2, c3, c4⟩ := nbf hn2
              have e1 : n2 = r := by
                rcases Int.lt_or_le n2 r with u | u
                · exact absurd c2 (by rw [a4 n2 (by omega) u]; simp)
                · rcases Int.lt_or_le r n2 with v | v
                  · exact absurd a2 (by rw [c4 r (by omega) v]; simp)
                  · omega
              subst e1
              have := sm_mid (hs1 rfl) (.inr ⟨hde, by omega⟩) (hs2 rfl)
              exact knot ⟨rfl, this⟩
            · exact absurd a2 (by rw [nbf_no hn2 he.1 r (by omega) a1.2]; simp)
          · rcases Int.lt_or_le q r with u | u
            · exact absurd a2 (by rw [b4 r u g]; simp)
            · exact u
      · rcases kc with ⟨rfl, rfl, rfl, _⟩ | ⟨knot, rfl, rfl⟩
        · have := (nbp hp1).2.2.1
          have := (nbf hn2).2.2.1
          omega
        · exact bwd_mono hp1 hp2 hde
    · omega
  · rcases kc with ⟨g, _⟩ | ⟨g, _⟩ | ⟨g, _⟩ | ⟨g, _⟩ | ⟨_, kc⟩
    · omega
    · omega
    · omega
    · omega
    · rcases hc with ⟨rfl, rfl, rfl, _⟩ | ⟨hnot, rfl, rfl⟩
      · rcases kc with ⟨rfl, rfl, rfl, _⟩ | ⟨knot, rfl, rfl⟩
        · exact bwd_mono hp1 hp2 hde
        · have := (nbp hp1).2.2.1
          have := (nbf hn2).2.2.1
          omega
      · rcases kc with ⟨rfl, rfl, rfl, _⟩ | ⟨knot, rfl, rfl⟩
        · obtain ⟨a1, a2, a3, a4⟩ := nbf hn1
          obtain ⟨b1, b2, b3, b4⟩ := nbp hp2
          unfold inD at b1
          rcases Int.lt_or_le q d with g | g
          · exfalso
            rcases hy1 with rfl | rfl
            · obtain ⟨c1, c2, c3, c4⟩ := nbp hp1
              have e1 : p1 = q := by
                rcases Int.lt_or_le p1 q with u | u
                · exact absurd b2 (by rw [c4 q u (by omega)]; simp)
                · rcases Int.lt_or_le q p1 with v | v
                  · exact absurd c2 (by rw [b4 p1 v (by omega)]; simp)
                  · omega
              subst e1
              have := sm_mid (ht2 rfl) (.inl ⟨by omega, hde⟩) (ht1 rfl)
              exact hnot ⟨rfl, this⟩
            · exact absurd b2 (by rw [nbp_no hp1 hd.2 q b1.1 (by omega)]; simp)
          · rcases Int.lt_or_le q r with u | u
            · exact absurd b2 (by rw [a4 q g u]; simp)
            · exact u
        · exact fwd_mono hn1 hn2 hde

end Go.Proofs.Ytainmmdlbajpnaa.Sc
