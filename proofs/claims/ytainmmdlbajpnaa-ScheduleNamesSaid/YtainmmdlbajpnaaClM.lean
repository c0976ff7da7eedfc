/-
  The chapter's examples: what is reckoned at given descriptions.
-/
import Derived.Test.YtainmmdlbajpnaaClI
import Derived.Test.YtainmmdlbajpnaaScI
namespace Go.Proofs.Ytainmmdlbajpnaa.Sc
open Go.RowKit Go.Proofs.Ytainmmdlbajpnaa Go.Proofs.Ytainmmdlbajpnaa.Ls Go.Proofs.Ytainmmdlbajpnaa.Kb
open Go.Proofs.Ytainmmdlbajpnaa.Dt hiding ret_bool ret_int

def u1 : Sch := ⟨0, 99999, 1200, false, false, 0, 0, 0, none, 0, []⟩
def u2 : Sch := ⟨5, 6, 1, false, false, 1, 0, 0, none, 0, []⟩
def u3 : Sch := ⟨0, 36524, 12, false, false, 0, 0, 0, none, 0, []⟩
def u4 : Sch := ⟨0, 36159, 12, false, false, 0, 0, 0, none, 0, []⟩
def u5 : Sch := ⟨45304, 45472, 2, false, false, 0, 3, 96, none, 0, []⟩
def u6 (a : Option Addr) (c : Nat) : Sch := ⟨99998, 99999, 1, false, false, 0, 1, 0, a, c, [99999]⟩
theorem q1 : DRes u1 [0, 36524, 73049, 99999] 0 := dres_of u1 1900 1 1 2 _ (by decide) (by unfold IsDate; decide) (by kernel_rfl) (by omega) (by decide) (by kernel_rfl)
theorem q2 : DRes u2 [5, 6] 0 := dres_of u2 1900 1 6 0 _ (by decide) (by unfold IsDate; decide) (by kernel_rfl) (by omega) (by decide) (by kernel_rfl)
theorem k3 : kn u3 1900 1 1 99 = 99 := by kernel_rfl
theorem k4 : kn u4 1900 1 1 98 = 98 := by kernel_rfl
theorem q3 : DRes u3 [] 4 := .inr ⟨1900, 1, 1, 99, ⟨by decide, by unfold IsDate; decide, cnt_of (by kernel_rfl), by omega⟩, .inr ⟨by rw [k3]; omega, rfl, rfl⟩⟩
theorem q4 : DRes u4 (dL u4 1900 1 1 (kn u4 1900 1 1 98)) 0 := dres_of u4 1900 1 1 98 _ (by decide) (by unfold IsDate; decide) (by kernel_rfl) (by omega) (by rw [k4]; omega) rfl
theorem l4 : (dL u4 1900 1 1 (kn u4 1900 1 1 98)).length = 100 := by rw [dl_len, k4]
theorem q5 : DRes u5 [45304, 45364, 45425, 45472] 0 := dres_of u5 2024 1 15 2 _ (by decide) (by unfold IsDate; decide) (by kernel_rfl) (by omega) (by decide) (by kernel_rfl)
theorem k6 (a : Option Addr) (c : Nat) : kn (u6 a c) 2173 10 14 0 = 0 := by kernel_rfl
theorem q6 (a : Option Addr) (c : Nat) : DRes (u6 a c) [99998, 99999] 0 := dres_of (u6 a c) 2173 10 14 0 _ (by kernel_rfl) (by show IsDate 2173 10 14 99998; unfold IsDate; decide) (by kernel_rfl) (by omega) (by rw [k6]; omega) (by kernel_rfl)
theorem f1 : FRes s2 [45304, 45364, 45425, 45472] 0 45303 0 6 := .inr (.inr (.inl ⟨rfl, by decide, by decide, .inl (by decide), rfl, rfl⟩))
theorem f2 : FRes s2 [45304, 45364, 45425, 45472] 0 45472 0 6 := .inr (.inr (.inl ⟨rfl, by decide, by decide, .inr (by decide), rfl, rfl⟩))
theorem f3 : FRes s2 [45304, 45364, 45425, 45472] 0 (-1) 0 2 := .inr (.inl ⟨rfl, .inl (by decide), rfl, rfl⟩)
theorem f4 : FRes s2 [45304, 45364, 45425, 45472] 0 45304 0 0 := .inr (.inr (.inr ⟨rfl, by decide, by decide, by decide, by decide, rfl, 0, rfl, by decide, by decide, by decide⟩))
theorem f5 : FRes s2 [45304, 45364, 45425, 45472] 0 45471 2 0 := .inr (.inr (.inr ⟨rfl, by decide, by decide, by decide, by decide, rfl, 2, rfl, by decide, by decide, by decide⟩))

/-- an open day rolls to itself -/
theorem roll_open {wk : Int} {hs : List Int} {d rule : Int} (hd : inD d) (ho : opB wk hs d = true) (h0 : 0 ≤ rule) (h4 : rule ≤ 4) : RollR wk hs d rule d 0 := by
  obtain ⟨y, m, dd, hdt⟩ := date_exists d hd.1 hd.2
  have hs : SM d d true := ⟨y, m, dd, y, m, dd, hdt, hd.2, hdt, hd.2, by simp⟩
  have hn : ∀ st : Int, NB wk ‹List Int› d st d 0 := fun st => .yes 0 (fun j hj => by omega) (by simpa using hd) (by simpa using ho) (by simp) rfl
  refine ⟨d, 0, d, 0, true, true, hn 1, hn (-1), fun _ => hs, fun _ => hs, .inl rfl, .inl rfl, ?_⟩
  rcases (show rule = 0 ∨ rule = 1 ∨ rule = 2 ∨ rule = 3 ∨ rule = 4 by omega) with h | h | h | h | h
  · exact .inl ⟨h, rfl, rfl⟩
  · exact .inr (.inl ⟨h, rfl, rfl⟩)
  · exact .inr (.inr (.inl ⟨h, rfl, rfl⟩))
  · exact .inr (.inr (.inr (.inl ⟨h, .inl ⟨rfl, rfl, rfl, rfl⟩⟩)))
  · exact .inr (.inr (.inr (.inr ⟨h, .inl ⟨rfl, rfl, rfl, rfl⟩⟩)))

theorem p5 : PRes u5 [45304, 45364, 45425, 45472] 0 [(45304, 45364, 45304, 45364), (45364, 45425, 45364, 45425), (45425, 45472, 45425, 45472)] 0 := by
  refine .inr ⟨rfl, 3, fun i => [45304, 45364, 45425, 45472].getD i 0, fun i => [45304, 45364, 45425, 45472].getD i 0, fun _ => 0, ⟨rfl, fun i _ => rfl, by omega, by omega, fun _ _ => .inl rfl, fun _ => ⟨rfl, rfl⟩, fun i _ h => absurd h (by decide)⟩, by decide, rfl, rfl, fun i hi => ?_, fun i => ?_⟩
  · rcases (show i = 0 ∨ i = 1 ∨ i = 2 by omega) with rfl | rfl | rfl <;> decide
  · match i with
    | 0 => exact ⟨by unfold inD; decide, roll_open (by unfold inD; decide) (by decide) (by decide) (by decide)⟩
    | 1 => exact ⟨by unfold inD; decide, roll_open (by unfold inD; decide) (by decide) (by decide) (by decide)⟩
    | 2 => exact ⟨by unfold inD; decide, roll_open (by unfold inD; decide) (by decide) (by decide) (by decide)⟩
    | 3 => exact ⟨by unfold inD; decide, roll_open (by unfold inD; decide) (by decide) (by decide) (by decide)⟩
    | i + 4 => exact ⟨by unfold inD; simp, roll_open (d := 0) (by unfold inD; decide) (by decide) (by decide) (by decide)⟩

theorem roll_none : RollR 0 [99999] 99999 1 0 40 := by
  obtain ⟨pr, pe, hp⟩ := nb_exists 0 [99999] 99999 (-1) (.inr rfl)
  have hd : inD 99999 := by unfold inD; decide
  have hs2 : ∃ s2 : Bool, pe = 0 → SM pr 99999 s2 := by
    rcases nb_range hp with ⟨h, g⟩ | ⟨h, _⟩
    · obtain ⟨s, hs⟩ := sm_exists pr 99999 g hd
      exact ⟨s, fun _ => hs⟩
    · exact ⟨true, fun g => by omega⟩
  obtain ⟨s2, hs2⟩ := hs2
  have e2 : pe = 0 ∨ pe = 40 := by rcases nb_range hp with ⟨h, _⟩ | ⟨h, _⟩ <;> omega
  refine ⟨0, 40, pr, pe, true, s2, .no 1 (fun j hj => ?_) (by unfold inD; decide) rfl rfl, hp, fun h => by omega, hs2, .inr rfl, e2, .inr (.inl ⟨rfl, rfl, rfl⟩)⟩
  obtain rfl : j = 0 := by omega
  exact ⟨by unfold inD; decide, by decide⟩

theorem p6 (a : Option Addr) (c : Nat) : PRes (u6 a c) [99998, 99999] 0 [] 40 := by
  refine .inr ⟨rfl, 1, fun i => [99998, 99999].getD i 0, fun i => if i = 1 then 0 else [99998, 99999].getD i 0, fun i => if i = 1 then 40 else 0, ⟨rfl, fun i _ => rfl, by omega, by omega, fun i _ => ?_, fun h => absurd (h 1 (Nat.le_refl _)) (by decide), fun i _ _ => ⟨rfl, rfl⟩⟩, by show calOK 0 [99999] = true; decide, rfl, rfl, fun i hi => ?_, fun i => ?_⟩
  · show (if i = 1 then (40 : Int) else 0) = 0 ∨ (if i = 1 then (40 : Int) else 0) = 40
    split
    · exact .inr rfl
    · exact .inl rfl
  · obtain rfl : i = 0 := by omega
    decide
  · match i with
    | 0 => exact ⟨by unfold inD; decide, roll_open (wk := 0) (hs := [99999]) (rule := 1) (d := 99998) (by unfold inD; decide) (by decide) (by decide) (by decide)⟩
    | 1 => exact ⟨by unfold inD; decide, roll_none⟩
    | i + 2 => exact ⟨by unfold inD; simp, roll_open (wk := 0) (hs := [99999]) (rule := 1) (d := 0) (by unfold inD; decide) (by decide) (by decide) (by decide)⟩

end Go.Proofs.Ytainmmdlbajpnaa.Sc
