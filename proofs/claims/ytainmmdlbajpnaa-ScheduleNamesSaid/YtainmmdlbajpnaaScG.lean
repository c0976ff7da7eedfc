/-
  The walk of schedule.Dates.
-/
import Derived.Test.YtainmmdlbajpnaaScE
import Derived.Test.YtainmmdlbajpnaaScF
namespace Go.Proofs.Ytainmmdlbajpnaa.Sc
open Go.RowKit Go.Proofs.Ytainmmdlbajpnaa Go.Proofs.Ytainmmdlbajpnaa.Ls Go.Proofs.Ytainmmdlbajpnaa.Kb Go.Proofs.Ytainmmdlbajpnaa.Dt

theorem inner_any (s : Sch) (y m d : Int) (N : Nat) (w : World) (hD : IsDate y m d s.from) (hn : s.from ≤ 99999) (hMo : 1 ≤ s.Mo ∧ s.Mo ≤ 1200)
    (hC : Cnt y m d s.step s.last s.back s.S s.E N) (hN : N ≤ 4000) :
    Calls Try.prog 26 #[.agg s.cells] w fun e w' => ∃ a c, e = .returned (.tuple #[.slice a N c, .bool (stubB y m d s.step s.last s.other N)]) ∧ OwnL w' w.heap.size 3 1 ic (.slice a N c) (innerL y m d s.step s.last N) ∧ N ≤ c ∧ Below w.heap.size w w' := by
  have fin : ∀ {e : Ending} {w' : World} {st : Int} {b : Bool}, (∃ v, e = .returned (.tuple #[v, .bool b]) ∧ OwnL w' w.heap.size 3 1 ic v (innerL y m d st s.last N) ∧ Below w.heap.size w w') →
      ∃ a c, e = .returned (.tuple #[.slice a N c, .bool b]) ∧ OwnL w' w.heap.size 3 1 ic (.slice a N c) (innerL y m d st s.last N) ∧ N ≤ c ∧ Below w.heap.size w w' := by
    rintro e w' st b ⟨v, rfl, ho, hb⟩
    obtain ⟨a, c, rfl, h1, h2, h3⟩ := ho.read ic_len
    rw [len_innerL] at ho h2 ⊢
    exact ⟨a, c, rfl, ho, h2, hb⟩
  obtain ⟨S, E, Mo, back, last, stub, roll, wk, a, c, hs⟩ := s
  cases back
  · exact (inner_fwd S E Mo last stub roll wk a c hs y m d N w hD hn hMo hC hN).mono (fun e w' h => fin h)
  · exact (inner_bwd S E Mo last stub roll wk a c hs y m d N w hD hn hMo hC hN).mono (fun e w' h => fin h)

theorem blk_three (w : World) (a b c : Obj) : ((((w.alloc a).alloc b).alloc c).heap[w.heap.size]? = some a ∧ (((w.alloc a).alloc b).alloc c).heap[w.heap.size + 1]? = some b ∧ (((w.alloc a).alloc b).alloc c).heap[w.heap.size + 1 + 1]? = some c) ∧
    Below w.heap.size w (((w.alloc a).alloc b).alloc c) ∧ (((w.alloc a).alloc b).alloc c).heap.size = w.heap.size + 3 := by
  refine ⟨?_, ((((Below.refl _ _).alloc (Nat.le_refl _) _).alloc (by simp) _).alloc (by simp; omega) _), by simp [World.size_alloc]⟩
  have e1 : ∀ (w : World) (o : Obj), (w.alloc o).heap = w.heap.push o := fun _ _ => rfl
  simp only [e1, Array.getElem?_push, Array.size_push]
  refine ⟨?_, ?_, ?_⟩ <;> (repeat rw [if_neg (by omega)]) <;> simp

/-- the three parts that Dates joins -/
theorem parts_at {w : World} {b1 b2 b3 : Nat} {S E : Int} {va : Option Addr} {n vc : Nat} {xs : List Int} (h1 : w.heap[b1]? = some (.cells #[.int .i64 S] 3 (0, 0))) (h2 : w.heap[b2]? = some (.cells #[.int .i64 E] 3 (0, 0)))
    (h3 : w.heap[b3]? = some (.cells #[.slice (some ⟨b1, 0, none⟩) 1 1, .slice va n vc, .slice (some ⟨b2, 0, none⟩) 1 1] 22 (0, 0))) (hn : xs.length = n) (hA : AtL w 1 ic va xs) :
    AtL w 1 sc (some ⟨b3, 0, none⟩) [⟨some ⟨b1, 0, none⟩, 1, [S]⟩, ⟨va, vc, xs⟩, ⟨some ⟨b2, 0, none⟩, 1, [E]⟩] ∧ ∀ s ∈ [(⟨some ⟨b1, 0, none⟩, 1, [S]⟩ : Sl), ⟨va, vc, xs⟩, ⟨some ⟨b2, 0, none⟩, 1, [E]⟩], AtL w 1 ic s.a s.xs := by
  subst hn
  have one : ∀ {b : Nat} {x : Int}, w.heap[b]? = some (.cells #[.int .i64 x] 3 (0, 0)) → AtL w 1 ic (some ⟨b, 0, none⟩) [x] := fun {b x} h i y hy => by
    cases i with
    | zero =>
      have : x = y := by simpa using hy
      subst this
      refine ⟨b, 0, rfl, fun j u hu => ?_⟩
      cases j with
      | zero =>
        have : u = .int .i64 x := by simpa [ic] using hu.symm
        rw [this]
        exact cell_of h 0 _ rfl
      | succ j => simp [ic] at hu
    | succ i => simp at hy
  refine ⟨fun i s hs => ⟨b3, 0, rfl, fun j u hu => ?_⟩, fun s hs => ?_⟩
  · cases j with
    | succ j => simp [sc] at hu
    | zero =>
      have hu' : u = .slice s.a s.xs.length s.c := by simpa [sc] using hu.symm
      subst hu'
      match i, hs with
      | 0, hs =>
        have : s = ⟨some ⟨b1, 0, none⟩, 1, [S]⟩ := by simpa using hs.symm
        subst this
        exact cell_of h3 0 _ rfl
      | 1, hs =>
        have : s = ⟨va, vc, xs⟩ := by simpa using hs.symm
        subst this
        exact cell_of h3 1 _ rfl
      | 2, hs =>
        have : s = ⟨some ⟨b2, 0, none⟩, 1, [E]⟩ := by simpa using hs.symm
        subst this
        exact cell_of h3 2 _ rfl
      | i + 3, hs => simp at hs
  · simp only [List.mem_cons, List.not_mem_nil, or_false] at hs
    rcases hs with rfl | rfl | rfl
    · exact one h1
    · exact hA
    · exact one h2

/-- what Dates returns -/
structure DYes (s : Sch) (y m d : Int) (N : Nat) : Prop where
  ok : schOK s = true
  dt : IsDate y m d s.from
  ct : Cnt y m d s.step s.last s.back s.S s.E N
  n : N ≤ 4000
/-- how many inner days are kept -/
def kn (s : Sch) (y m d : Int) (N : Nat) : Nat := kept (stubB y m d s.step s.last s.other N) (decide (s.stub = 1)) N
def dL (s : Sch) (y m d : Int) (n : Nat) : List Int := datesL y m d s.step s.last s.back s.S s.E n

theorem sch_facts {s : Sch} (h : schOK s = true) : calOK s.wk s.hs = true ∧ 0 ≤ s.S ∧ s.S < s.E ∧ s.E ≤ 99999 ∧ 1 ≤ s.Mo ∧ s.Mo ≤ 1200 ∧ s.stub ≤ 1 ∧ s.roll ≤ 4 := by
  unfold schOK at h
  rw [Bool.and_eq_true, decide_eq_true_eq] at h
  exact h
theorem dyes_exists (s : Sch) (h : schOK s = true) : ∃ y m d N, DYes s y m d N := by
  obtain ⟨h0, h1, h2, h3, h4, h5, h6, h7⟩ := sch_facts h
  have hf : 0 ≤ s.from ∧ s.from ≤ 99999 := by
    unfold Sch.from
    split <;> omega
  have hst : s.step ≠ 0 := by
    unfold Sch.step
    split <;> omega
  obtain ⟨y, m, d, hD⟩ := date_exists s.from hf.1 hf.2
  obtain ⟨N, hN, hC⟩ := cnt_exists (last := s.last) (back := s.back) (S := s.S) (E := s.E) hD hst
  exact ⟨y, m, d, N, h, hD, hC, hN⟩
theorem kn_le (s : Sch) (y m d : Int) (N : Nat) : kn s y m d N ≤ N := by
  unfold kn kept
  split <;> omega

set_option maxRecDepth 100000 in
set_option maxHeartbeats 2000000 in
theorem dates_yes (s : Sch) (y m d : Int) (N : Nat) (w : World) (hS : SchAt w s) (h : DYes s y m d N) (hk : kn s y m d N + 2 ≤ 100) :
    Calls Try.prog 12 #[.agg s.cells] w fun e w' => ∃ a c, e = .returned (.tuple #[.slice a (kn s y m d N + 2) c, .int .i64 0]) ∧ OwnL w' w.heap.size 3 1 ic (.slice a (kn s y m d N + 2) c) (dL s y m d (kn s y m d N)) ∧ Below w.heap.size w w' := by
  have hsm := hS.sm
  have HS := Lib.hid hS
  have HY := Lib.hid h
  obtain ⟨h0, h1, h2, h3, h4, h5, h6, h7⟩ := sch_facts h.ok
  have hf : s.from ≤ 99999 := by
    unfold Sch.from
    split <;> omega
  have hN := h.n
  clear hS h
  obtain ⟨b, hb⟩ : ∃ b, stubB y m d s.step s.last s.other N = b := ⟨_, rfl⟩
  have HK : Hid (kn s y m d N = kept b (decide (s.stub = 1)) N) := by
    unfold Hid
    rw [← hb]
    rfl
  have HI := Lib.hid (fun w : World => inner_any s y m d N w HY.out.dt hf ⟨h4, h5⟩ HY.out.ct HY.out.n)
  rw [hb] at HI
  clear hb
  have HC := Lib.hid (fun (w' : World) (h : SchAt w' s) => check_any s w' h)
  rw [HY.out.ok] at HC
  have HD : Hid (dL s y m d (kn s y m d N) = s.S :: ((if s.back then (innerL y m d s.step s.last (kn s y m d N)).reverse else innerL y m d s.step s.last (kn s y m d N)) ++ [s.E])) := rfl
  generalize kn s y m d N = n at HK hk HD ⊢
  generalize dL s y m d n = D at HD ⊢
  generalize hst : s.step = st at HI HD
  have HNI : Hid (∀ n, n ≤ N → (innerL y m d st s.last N).take n = innerL y m d st s.last n) := fun n hn => by
    unfold innerL
    rw [← List.map_take, List.take_range, Nat.min_eq_left hn]
  have HLI : Hid (∀ n, (innerL y m d st s.last n).length = n) := fun n => len_innerL _ _ _ _ _ n
  generalize innerL y m d st s.last = IL at HI HD HNI HLI
  clear hst HY hf
  obtain ⟨S, E, Mo, back, last, stub, roll, wk, a, c, hs⟩ := s
  simp only [Sch.cells] at *
  have hx := blk_new w (.cells #[.int .i64 S, .int .i64 E, .int .i64 Mo, .bool back, .bool last, .int .u8 stub, .int .u8 roll, .int .u8 wk, .slice a hs.length c] 26)
  have hbo : Below w.heap.size w (w.alloc (.cells #[.int .i64 S, .int .i64 E, .int .i64 Mo, .bool back, .bool last, .int .u8 stub, .int .u8 roll, .int .u8 wk, .slice a hs.length c] 26)) := (Below.refl _ _).alloc (Nat.le_refl _) _
  go_enter Try.func12, Try.ntmps12
  go_wp2_with fail
  generalize w.alloc _ = wo at hx hbo ⊢
  refine (HC.out wo (HS.out.below hbo)).mono ?_
  rintro e w1 ⟨rfl, hb1⟩
  have e0 : eV true = 0 := rfl
  rw [e0]
  clear e0
  have c1 := bt hbo hb1 (Nat.le_refl _)
  have hx := blk_keep hx hb1
  have hltx : w.heap.size < w1.heap.size := blk_lt hx
  have x0 := cell_of hx 0 _ rfl
  have x1 := cell_of hx 1 _ rfl
  have x2 := cell_of hx 2 _ rfl
  have x3 := cell_of hx 3 _ rfl
  have x4 := cell_of hx 4 _ rfl
  have x5 := cell_of hx 5 _ rfl
  have x6 := cell_of hx 6 _ rfl
  have x7 := cell_of hx 7 _ rfl
  have x8 := cell_of hx 8 _ rfl
  go_wp2_with fail
  refine (HI.out w1).mono ?_
  rintro e w2 ⟨va, vc, rfl, ho, hvc, hb2⟩
  have c2 := bt c1 hb2 (Nat.le_refl _)
  have hx := blk_keep hx hb2
  clear x0 x1 x2 x3 x4 x5 x6 x7 x8 hb1 hbo
  have x0 := cell_of hx 0 _ rfl
  have x1 := cell_of hx 1 _ rfl
  have x3 := cell_of hx 3 _ rfl
  have x5 := cell_of hx 5 _ rfl
  have HO := Lib.hid ho
  have HX := Lib.hid hx
  clear ho hx hb2
  have hlt2 : w.heap.size < w2.heap.size := blk_lt HX.out
  have hlt1 : w.heap.size ≤ w1.heap.size := c1.size
  by_cases hcut : b = true ∧ stub = 1 ∧ 0 < N
  · obtain ⟨rfl, rfl, hN0⟩ := hcut
    have hn : n = N - 1 := by
      rw [HK.out]
      unfold kept
      rw [if_pos (by simp [hN0])]
    obtain rfl : N = n + 1 := by omega
    have HOn : Hid (OwnL w2 w1.heap.size 3 1 ic (.slice va n vc) (IL n)) := by
      have := own_take HO.out (m := n) (by rw [HLI.out]; omega)
      rw [HNI.out n (by omega)] at this
      exact this
    clear hn HK HO hN0 HNI
    cases back
    · go_wp2_with fail
      obtain ⟨⟨k1, k2, k3⟩, hb3, hsz⟩ := blk_three w2 (.cells #[.int .i64 S] 3) (.cells #[.int .i64 E] 3) (.cells #[.slice (some ⟨w2.heap.size, 0, none⟩) 1 1, .slice va n vc, .slice (some ⟨w2.heap.size + 1, 0, none⟩) 1 1] 22)
      generalize ((w2.alloc _).alloc _).alloc _ = w3 at k1 k2 k3 hb3 hsz ⊢
      obtain ⟨p1, p2⟩ := parts_at k1 k2 k3 (HLI.out n) ((HOn.out.sl ic_len).1.below hb3)
      have hcat : cat [(⟨some ⟨w2.heap.size, 0, none⟩, 1, [S]⟩ : Sl), ⟨va, vc, IL n⟩, ⟨some ⟨w2.heap.size + 1, 0, none⟩, 1, [E]⟩] = D := by
        rw [HD.out]
        simp [cat]
      have hDl : D.length = n + 2 := by
        rw [← hcat]
        simp [cat, HLI.out]
      have hcon := concat_any (some ⟨w2.heap.size + 1 + 1, 0, none⟩) 3 _ w3 p1 p2 (by rw [hcat]; omega) (by rw [hcat]; omega) (by simp)
      rw [hcat, hDl] at hcon
      have cX3 : Below w.heap.size w w3 := bt c2 hb3 (by have := c2.size; omega)
      clear k1 k2 k3 hb3 hsz p1 p2 hcat
      refine Calls.mono hcon ?_
      rintro e w4 ⟨ra, rc, rfl, ho, hb4⟩
      have HO4 := Lib.hid ho
      have c4 := bt cX3 hb4 (Nat.le_refl _)
      have hle := cX3.size
      clear ho hb4 hcon
      go_wp2
      go_ret2
      exact ⟨_, _, rfl, OwnL.lower' HO4.out hle, c4⟩
    · go_wp2_with fail
      refine (rev_any w1.heap.size n vc va (IL n) w2 HOn.out (by rw [HLI.out]; omega)).mono ?_
      rintro e w5 ⟨rfl, hrev, hb5⟩
      have HX5 := Lib.hid ((hb5.block _ hltx).trans HX.out)
      have c5 := c2.trans (hb5.mono hlt1)
      have hlt5 : w.heap.size < w5.heap.size := blk_lt HX5.out
      clear x0 x1 x3 x5 hb5
      have x0 := cell_of HX5.out 0 _ rfl
      have x1 := cell_of HX5.out 1 _ rfl
      have HRV := Lib.hid hrev
      clear hrev
      go_wp2_with fail
      obtain ⟨⟨k1, k2, k3⟩, hb3, hsz⟩ := blk_three w5 (.cells #[.int .i64 S] 3) (.cells #[.int .i64 E] 3) (.cells #[.slice (some ⟨w5.heap.size, 0, none⟩) 1 1, .slice va n vc, .slice (some ⟨w5.heap.size + 1, 0, none⟩) 1 1] 22)
      generalize ((w5.alloc _).alloc _).alloc _ = w3 at k1 k2 k3 hb3 hsz ⊢
      obtain ⟨p1, p2⟩ := parts_at k1 k2 k3 (by rw [List.length_reverse]; exact HLI.out n) (HRV.out.below hb3)
      have hcat : cat [(⟨some ⟨w5.heap.size, 0, none⟩, 1, [S]⟩ : Sl), ⟨va, vc, (IL n).reverse⟩, ⟨some ⟨w5.heap.size + 1, 0, none⟩, 1, [E]⟩] = D := by
        rw [HD.out]
        simp [cat]
      have hDl : D.length = n + 2 := by
        rw [← hcat]
        simp [cat, HLI.out]
      have hcon := concat_any (some ⟨w5.heap.size + 1 + 1, 0, none⟩) 3 _ w3 p1 p2 (by rw [hcat]; omega) (by rw [hcat]; omega) (by simp)
      rw [hcat, hDl] at hcon
      have cX3 : Below w.heap.size w w3 := bt c5 hb3 (by have := c5.size; omega)
      clear k1 k2 k3 hb3 hsz p1 p2 hcat
      refine Calls.mono hcon ?_
      rintro e w4 ⟨ra, rc, rfl, ho, hb4⟩
      have HO4 := Lib.hid ho
      have c4 := bt cX3 hb4 (Nat.le_refl _)
      have hle := cX3.size
      clear ho hb4 hcon
      go_wp2
      go_ret2
      exact ⟨_, _, rfl, OwnL.lower' HO4.out hle, c4⟩
  · have hn : n = N := by
      rw [HK.out]
      unfold kept
      rw [if_neg (fun h => hcut (by simp at h; exact ⟨h.1.1, h.1.2, h.2⟩))]
    subst hn
    have HOn := HO
    clear HK HNI
    rcases Bool.eq_false_or_eq_true b with hbv | hbv
    · subst hbv
      by_cases hs1 : stub = 1
      · have hn0 : (n : Int) ≤ 0 := by
          rcases Nat.eq_zero_or_pos n with h | h
          · omega
          · exact absurd ⟨rfl, hs1, h⟩ hcut
        subst hs1
        clear hcut
        cases back
        · go_wp2_with fail
          obtain ⟨⟨k1, k2, k3⟩, hb3, hsz⟩ := blk_three w2 (.cells #[.int .i64 S] 3) (.cells #[.int .i64 E] 3) (.cells #[.slice (some ⟨w2.heap.size, 0, none⟩) 1 1, .slice va n vc, .slice (some ⟨w2.heap.size + 1, 0, none⟩) 1 1] 22)
          generalize ((w2.alloc _).alloc _).alloc _ = w3 at k1 k2 k3 hb3 hsz ⊢
          obtain ⟨p1, p2⟩ := parts_at k1 k2 k3 (HLI.out n) ((HOn.out.sl ic_len).1.below hb3)
          have hcat : cat [(⟨some ⟨w2.heap.size, 0, none⟩, 1, [S]⟩ : Sl), ⟨va, vc, IL n⟩, ⟨some ⟨w2.heap.size + 1, 0, none⟩, 1, [E]⟩] = D := by
            rw [HD.out]
            simp [cat]
          have hDl : D.length = n + 2 := by
            rw [← hcat]
            simp [cat, HLI.out]
          have hcon := concat_any (some ⟨w2.heap.size + 1 + 1, 0, none⟩) 3 _ w3 p1 p2 (by rw [hcat]; omega) (by rw [hcat]; omega) (by simp)
          rw [hcat, hDl] at hcon
          have cX3 : Below w.heap.size w w3 := bt c2 hb3 (by have := c2.size; omega)
          clear k1 k2 k3 hb3 hsz p1 p2 hcat
          refine Calls.mono hcon ?_
          rintro e w4 ⟨ra, rc, rfl, ho, hb4⟩
          have HO4 := Lib.hid ho
          have c4 := bt cX3 hb4 (Nat.le_refl _)
          have hle := cX3.size
          clear ho hb4 hcon
          go_wp2
          go_ret2
          exact ⟨_, _, rfl, OwnL.lower' HO4.out hle, c4⟩
        · go_wp2_with fail
          refine (rev_any w1.heap.size n vc va (IL n) w2 HOn.out (by rw [HLI.out]; omega)).mono ?_
          rintro e w5 ⟨rfl, hrev, hb5⟩
          have HX5 := Lib.hid ((hb5.block _ hltx).trans HX.out)
          have c5 := c2.trans (hb5.mono hlt1)
          have hlt5 : w.heap.size < w5.heap.size := blk_lt HX5.out
          clear x0 x1 x3 x5 hb5
          have x0 := cell_of HX5.out 0 _ rfl
          have x1 := cell_of HX5.out 1 _ rfl
          have HRV := Lib.hid hrev
          clear hrev
          go_wp2_with fail
          obtain ⟨⟨k1, k2, k3⟩, hb3, hsz⟩ := blk_three w5 (.cells #[.int .i64 S] 3) (.cells #[.int .i64 E] 3) (.cells #[.slice (some ⟨w5.heap.size, 0, none⟩) 1 1, .slice va n vc, .slice (some ⟨w5.heap.size + 1, 0, none⟩) 1 1] 22)
          generalize ((w5.alloc _).alloc _).alloc _ = w3 at k1 k2 k3 hb3 hsz ⊢
          obtain ⟨p1, p2⟩ := parts_at k1 k2 k3 (by rw [List.length_reverse]; exact HLI.out n) (HRV.out.below hb3)
          have hcat : cat [(⟨some ⟨w5.heap.size, 0, none⟩, 1, [S]⟩ : Sl), ⟨va, vc, (IL n).reverse⟩, ⟨some ⟨w5.heap.size + 1, 0, none⟩, 1, [E]⟩] = D := by
            rw [HD.out]
            simp [cat]
          have hDl : D.length = n + 2 := by
            rw [← hcat]
            simp [cat, HLI.out]
          have hcon := concat_any (some ⟨w5.heap.size + 1 + 1, 0, none⟩) 3 _ w3 p1 p2 (by rw [hcat]; omega) (by rw [hcat]; omega) (by simp)
          rw [hcat, hDl] at hcon
          have cX3 : Below w.heap.size w w3 := bt c5 hb3 (by have := c5.size; omega)
          clear k1 k2 k3 hb3 hsz p1 p2 hcat
          refine Calls.mono hcon ?_
          rintro e w4 ⟨ra, rc, rfl, ho, hb4⟩
          have HO4 := Lib.hid ho
          have c4 := bt cX3 hb4 (Nat.le_refl _)
          have hle := cX3.size
          clear ho hb4 hcon
          go_wp2
          go_ret2
          exact ⟨_, _, rfl, OwnL.lower' HO4.out hle, c4⟩
      · clear hcut
        cases back
        · go_wp2_with fail
          obtain ⟨⟨k1, k2, k3⟩, hb3, hsz⟩ := blk_three w2 (.cells #[.int .i64 S] 3) (.cells #[.int .i64 E] 3) (.cells #[.slice (some ⟨w2.heap.size, 0, none⟩) 1 1, .slice va n vc, .slice (some ⟨w2.heap.size + 1, 0, none⟩) 1 1] 22)
          generalize ((w2.alloc _).alloc _).alloc _ = w3 at k1 k2 k3 hb3 hsz ⊢
          obtain ⟨p1, p2⟩ := parts_at k1 k2 k3 (HLI.out n) ((HOn.out.sl ic_len).1.below hb3)
          have hcat : cat [(⟨some ⟨w2.heap.size, 0, none⟩, 1, [S]⟩ : Sl), ⟨va, vc, IL n⟩, ⟨some ⟨w2.heap.size + 1, 0, none⟩, 1, [E]⟩] = D := by
            rw [HD.out]
            simp [cat]
          have hDl : D.length = n + 2 := by
            rw [← hcat]
            simp [cat, HLI.out]
          have hcon := concat_any (some ⟨w2.heap.size + 1 + 1, 0, none⟩) 3 _ w3 p1 p2 (by rw [hcat]; omega) (by rw [hcat]; omega) (by simp)
          rw [hcat, hDl] at hcon
          have cX3 : Below w.heap.size w w3 := bt c2 hb3 (by have := c2.size; omega)
          clear k1 k2 k3 hb3 hsz p1 p2 hcat
          refine Calls.mono hcon ?_
          rintro e w4 ⟨ra, rc, rfl, ho, hb4⟩
          have HO4 := Lib.hid ho
          have c4 := bt cX3 hb4 (Nat.le_refl _)
          have hle := cX3.size
          clear ho hb4 hcon
          go_wp2
          go_ret2
          exact ⟨_, _, rfl, OwnL.lower' HO4.out hle, c4⟩
        · go_wp2_with fail
          refine (rev_any w1.heap.size n vc va (IL n) w2 HOn.out (by rw [HLI.out]; omega)).mono ?_
          rintro e w5 ⟨rfl, hrev, hb5⟩
          have HX5 := Lib.hid ((hb5.block _ hltx).trans HX.out)
          have c5 := c2.trans (hb5.mono hlt1)
          have hlt5 : w.heap.size < w5.heap.size := blk_lt HX5.out
          clear x0 x1 x3 x5 hb5
          have x0 := cell_of HX5.out 0 _ rfl
          have x1 := cell_of HX5.out 1 _ rfl
          have HRV := Lib.hid hrev
          clear hrev
          go_wp2_with fail
          obtain ⟨⟨k1, k2, k3⟩, hb3, hsz⟩ := blk_three w5 (.cells #[.int .i64 S] 3) (.cells #[.int .i64 E] 3) (.cells #[.slice (some ⟨w5.heap.size, 0, none⟩) 1 1, .slice va n vc, .slice (some ⟨w5.heap.size + 1, 0, none⟩) 1 1] 22)
          generalize ((w5.alloc _).alloc _).alloc _ = w3 at k1 k2 k3 hb3 hsz ⊢
          obtain ⟨p1, p2⟩ := parts_at k1 k2 k3 (by rw [List.length_reverse]; exact HLI.out n) (HRV.out.below hb3)
          have hcat : cat [(⟨some ⟨w5.heap.size, 0, none⟩, 1, [S]⟩ : Sl), ⟨va, vc, (IL n).reverse⟩, ⟨some ⟨w5.heap.size + 1, 0, none⟩, 1, [E]⟩] = D := by
            rw [HD.out]
            simp [cat]
          have hDl : D.length = n + 2 := by
            rw [← hcat]
            simp [cat, HLI.out]
          have hcon := concat_any (some ⟨w5.heap.size + 1 + 1, 0, none⟩) 3 _ w3 p1 p2 (by rw [hcat]; omega) (by rw [hcat]; omega) (by simp)
          rw [hcat, hDl] at hcon
          have cX3 : Below w.heap.size w w3 := bt c5 hb3 (by have := c5.size; omega)
          clear k1 k2 k3 hb3 hsz p1 p2 hcat
          refine Calls.mono hcon ?_
          rintro e w4 ⟨ra, rc, rfl, ho, hb4⟩
          have HO4 := Lib.hid ho
          have c4 := bt cX3 hb4 (Nat.le_refl _)
          have hle := cX3.size
          clear ho hb4 hcon
          go_wp2
          go_ret2
          exact ⟨_, _, rfl, OwnL.lower' HO4.out hle, c4⟩
    · subst hbv
      clear hcut
      cases back
      · go_wp2_with fail
        obtain ⟨⟨k1, k2, k3⟩, hb3, hsz⟩ := blk_three w2 (.cells #[.int .i64 S] 3) (.cells #[.int .i64 E] 3) (.cells #[.slice (some ⟨w2.heap.size, 0, none⟩) 1 1, .slice va n vc, .slice (some ⟨w2.heap.size + 1, 0, none⟩) 1 1] 22)
        generalize ((w2.alloc _).alloc _).alloc _ = w3 at k1 k2 k3 hb3 hsz ⊢
        obtain ⟨p1, p2⟩ := parts_at k1 k2 k3 (HLI.out n) ((HOn.out.sl ic_len).1.below hb3)
        have hcat : cat [(⟨some ⟨w2.heap.size, 0, none⟩, 1, [S]⟩ : Sl), ⟨va, vc, IL n⟩, ⟨some ⟨w2.heap.size + 1, 0, none⟩, 1, [E]⟩] = D := by
          rw [HD.out]
          simp [cat]
        have hDl : D.length = n + 2 := by
          rw [← hcat]
          simp [cat, HLI.out]
        have hcon := concat_any (some ⟨w2.heap.size + 1 + 1, 0, none⟩) 3 _ w3 p1 p2 (by rw [hcat]; omega) (by rw [hcat]; omega) (by simp)
        rw [hcat, hDl] at hcon
        have cX3 : Below w.heap.size w w3 := bt c2 hb3 (by have := c2.size; omega)
        clear k1 k2 k3 hb3 hsz p1 p2 hcat
        refine Calls.mono hcon ?_
        rintro e w4 ⟨ra, rc, rfl, ho, hb4⟩
        have HO4 := Lib.hid ho
        have c4 := bt cX3 hb4 (Nat.le_refl _)
        have hle := cX3.size
        clear ho hb4 hcon
        go_wp2
        go_ret2
        exact ⟨_, _, rfl, OwnL.lower' HO4.out hle, c4⟩
      · go_wp2_with fail
        refine (rev_any w1.heap.size n vc va (IL n) w2 HOn.out (by rw [HLI.out]; omega)).mono ?_
        rintro e w5 ⟨rfl, hrev, hb5⟩
        have HX5 := Lib.hid ((hb5.block _ hltx).trans HX.out)
        have c5 := c2.trans (hb5.mono hlt1)
        have hlt5 : w.heap.size < w5.heap.size := blk_lt HX5.out
        clear x0 x1 x3 x5 hb5
        have x0 := cell_of HX5.out 0 _ rfl
        have x1 := cell_of HX5.out 1 _ rfl
        have HRV := Lib.hid hrev
        clear hrev
        go_wp2_with fail
        obtain ⟨⟨k1, k2, k3⟩, hb3, hsz⟩ := blk_three w5 (.cells #[.int .i64 S] 3) (.cells #[.int .i64 E] 3) (.cells #[.slice (some ⟨w5.heap.size, 0, none⟩) 1 1, .slice va n vc, .slice (some ⟨w5.heap.size + 1, 0, none⟩) 1 1] 22)
        generalize ((w5.alloc _).alloc _).alloc _ = w3 at k1 k2 k3 hb3 hsz ⊢
        obtain ⟨p1, p2⟩ := parts_at k1 k2 k3 (by rw [List.length_reverse]; exact HLI.out n) (HRV.out.below hb3)
        have hcat : cat [(⟨some ⟨w5.heap.size, 0, none⟩, 1, [S]⟩ : Sl), ⟨va, vc, (IL n).reverse⟩, ⟨some ⟨w5.heap.size + 1, 0, none⟩, 1, [E]⟩] = D := by
          rw [HD.out]
          simp [cat]
        have hDl : D.length = n + 2 := by
          rw [← hcat]
          simp [cat, HLI.out]
        have hcon := concat_any (some ⟨w5.heap.size + 1 + 1, 0, none⟩) 3 _ w3 p1 p2 (by rw [hcat]; omega) (by rw [hcat]; omega) (by simp)
        rw [hcat, hDl] at hcon
        have cX3 : Below w.heap.size w w3 := bt c5 hb3 (by have := c5.size; omega)
        clear k1 k2 k3 hb3 hsz p1 p2 hcat
        refine Calls.mono hcon ?_
        rintro e w4 ⟨ra, rc, rfl, ho, hb4⟩
        have HO4 := Lib.hid ho
        have c4 := bt cX3 hb4 (Nat.le_refl _)
        have hle := cX3.size
        clear ho hb4 hcon
        go_wp2
        go_ret2
        exact ⟨_, _, rfl, OwnL.lower' HO4.out hle, c4⟩

set_option maxRecDepth 100000 in
set_option maxHeartbeats 2000000 in
theorem dates_many (s : Sch) (y m d : Int) (N : Nat) (w : World) (hS : SchAt w s) (h : DYes s y m d N) (hk : 100 < kn s y m d N + 2) :
    Calls Try.prog 12 #[.agg s.cells] w fun e w' => e = .returned (.tuple #[.slice none 0 0, .int .i64 4]) ∧ Below w.heap.size w w' := by
  have hsm := hS.sm
  have HS := Lib.hid hS
  have HY := Lib.hid h
  obtain ⟨h0, h1, h2, h3, h4, h5, h6, h7⟩ := sch_facts h.ok
  have hf : s.from ≤ 99999 := by
    unfold Sch.from
    split <;> omega
  have hN := h.n
  clear hS h
  obtain ⟨b, hb⟩ : ∃ b, stubB y m d s.step s.last s.other N = b := ⟨_, rfl⟩
  have HK : Hid (kn s y m d N = kept b (decide (s.stub = 1)) N) := by
    unfold Hid
    rw [← hb]
    rfl
  have HI := Lib.hid (fun w : World => inner_any s y m d N w HY.out.dt hf ⟨h4, h5⟩ HY.out.ct HY.out.n)
  rw [hb] at HI
  clear hb
  have HC := Lib.hid (fun (w' : World) (h : SchAt w' s) => check_any s w' h)
  rw [HY.out.ok] at HC
  generalize kn s y m d N = n at HK hk
  generalize hst : s.step = st at HI
  have HNI : Hid (∀ n, n ≤ N → (innerL y m d st s.last N).take n = innerL y m d st s.last n) := fun n hn => by
    unfold innerL
    rw [← List.map_take, List.take_range, Nat.min_eq_left hn]
  have HLI : Hid (∀ n, (innerL y m d st s.last n).length = n) := fun n => len_innerL _ _ _ _ _ n
  generalize innerL y m d st s.last = IL at HI HNI HLI
  clear hst HY hf
  obtain ⟨S, E, Mo, back, last, stub, roll, wk, a, c, hs⟩ := s
  simp only [Sch.cells] at *
  have hx := blk_new w (.cells #[.int .i64 S, .int .i64 E, .int .i64 Mo, .bool back, .bool last, .int .u8 stub, .int .u8 roll, .int .u8 wk, .slice a hs.length c] 26)
  have hbo : Below w.heap.size w (w.alloc (.cells #[.int .i64 S, .int .i64 E, .int .i64 Mo, .bool back, .bool last, .int .u8 stub, .int .u8 roll, .int .u8 wk, .slice a hs.length c] 26)) := (Below.refl _ _).alloc (Nat.le_refl _) _
  go_enter Try.func12, Try.ntmps12
  go_wp2_with fail
  generalize w.alloc _ = wo at hx hbo ⊢
  refine (HC.out wo (HS.out.below hbo)).mono ?_
  rintro e w1 ⟨rfl, hb1⟩
  have e0 : eV true = 0 := rfl
  rw [e0]
  clear e0
  have c1 := bt hbo hb1 (Nat.le_refl _)
  have hx := blk_keep hx hb1
  have hltx : w.heap.size < w1.heap.size := blk_lt hx
  have x0 := cell_of hx 0 _ rfl
  have x1 := cell_of hx 1 _ rfl
  have x2 := cell_of hx 2 _ rfl
  have x3 := cell_of hx 3 _ rfl
  have x4 := cell_of hx 4 _ rfl
  have x5 := cell_of hx 5 _ rfl
  have x6 := cell_of hx 6 _ rfl
  have x7 := cell_of hx 7 _ rfl
  have x8 := cell_of hx 8 _ rfl
  go_wp2_with fail
  refine (HI.out w1).mono ?_
  rintro e w2 ⟨va, vc, rfl, ho, hvc, hb2⟩
  have c2 := bt c1 hb2 (Nat.le_refl _)
  have hx := blk_keep hx hb2
  clear x0 x1 x2 x3 x4 x5 x6 x7 x8 hb1 hbo
  have x0 := cell_of hx 0 _ rfl
  have x1 := cell_of hx 1 _ rfl
  have x3 := cell_of hx 3 _ rfl
  have x5 := cell_of hx 5 _ rfl
  have HO := Lib.hid ho
  have HX := Lib.hid hx
  clear ho hx hb2
  have hlt2 : w.heap.size < w2.heap.size := blk_lt HX.out
  have hlt1 : w.heap.size ≤ w1.heap.size := c1.size
  by_cases hcut : b = true ∧ stub = 1 ∧ 0 < N
  · obtain ⟨rfl, rfl, hN0⟩ := hcut
    have hn : n = N - 1 := by
      rw [HK.out]
      unfold kept
      rw [if_pos (by simp [hN0])]
    obtain rfl : N = n + 1 := by omega
    clear hn HK HO hN0 HNI
    go_wp2
    go_ret2
    exact ⟨rfl, c2⟩
  · have hn : n = N := by
      rw [HK.out]
      unfold kept
      rw [if_neg (fun h => hcut (by simp at h; exact ⟨h.1.1, h.1.2, h.2⟩))]
    subst hn
    clear HK HNI
    rcases Bool.eq_false_or_eq_true b with hbv | hbv
    · subst hbv
      have hs1 : ¬ stub = 1 := fun h => hcut ⟨rfl, h, by omega⟩
      clear hcut
      go_wp2
      go_ret2
      exact ⟨rfl, c2⟩
    · subst hbv
      clear hcut
      go_wp2
      go_ret2
      exact ⟨rfl, c2⟩

set_option maxRecDepth 100000 in
set_option maxHeartbeats 1000000 in
theorem dates_bad (s : Sch) (w : World) (hS : SchAt w s) (h : schOK s = false) :
    Calls Try.prog 12 #[.agg s.cells] w fun e w' => e = .returned (.tuple #[.slice none 0 0, .int .i64 8]) ∧ Below w.heap.size w w' := by
  have HS := Lib.hid hS
  have HC := Lib.hid (fun (w' : World) (h : SchAt w' s) => check_any s w' h)
  rw [h] at HC
  clear hS h
  obtain ⟨S, E, Mo, back, last, stub, roll, wk, a, c, hs⟩ := s
  simp only [Sch.cells] at *
  have hbo : Below w.heap.size w (w.alloc (.cells #[.int .i64 S, .int .i64 E, .int .i64 Mo, .bool back, .bool last, .int .u8 stub, .int .u8 roll, .int .u8 wk, .slice a hs.length c] 26)) := (Below.refl _ _).alloc (Nat.le_refl _) _
  go_enter Try.func12, Try.ntmps12
  go_wp2_with fail
  generalize w.alloc _ = wo at hbo ⊢
  refine (HC.out wo (HS.out.below hbo)).mono ?_
  rintro e w1 ⟨rfl, hb1⟩
  have e0 : eV false = 8 := rfl
  rw [e0]
  clear e0
  have c1 := bt hbo hb1 (Nat.le_refl _)
  go_wp2
  go_ret2
  exact ⟨rfl, c1⟩

/-- what Dates returns, whatever the description -/
def DRes (s : Sch) (L : List Int) (g : Int) : Prop :=
  (schOK s = false ∧ L = [] ∧ g = 8) ∨ ∃ y m d N, DYes s y m d N ∧ ((kn s y m d N + 2 ≤ 100 ∧ L = dL s y m d (kn s y m d N) ∧ g = 0) ∨ (100 < kn s y m d N + 2 ∧ L = [] ∧ g = 4))
theorem dres_exists (s : Sch) : ∃ L g, DRes s L g := by
  rcases hb (schOK s) with h | h
  · obtain ⟨y, m, d, N, hY⟩ := dyes_exists s h
    by_cases hk : kn s y m d N + 2 ≤ 100
    · exact ⟨_, _, .inr ⟨y, m, d, N, hY, .inl ⟨hk, rfl, rfl⟩⟩⟩
    · exact ⟨_, _, .inr ⟨y, m, d, N, hY, .inr ⟨by omega, rfl, rfl⟩⟩⟩
  · exact ⟨_, _, .inl ⟨h, rfl, rfl⟩⟩
theorem dates_any (s : Sch) (L : List Int) (g : Int) (w : World) (hS : SchAt w s) (h : DRes s L g) :
    Calls Try.prog 12 #[.agg s.cells] w fun e w' => ∃ a c, e = .returned (.tuple #[.slice a L.length c, .int .i64 g]) ∧ OwnL w' w.heap.size 3 1 ic (.slice a L.length c) L ∧ Below w.heap.size w w' := by
  rcases h with ⟨h, rfl, rfl⟩ | ⟨y, m, d, N, hY, ⟨hk, rfl, rfl⟩ | ⟨hk, rfl, rfl⟩⟩
  · refine (dates_bad s w hS h).mono ?_
    rintro e w' ⟨rfl, hb⟩
    exact ⟨none, 0, rfl, OwnL.nil _ _ _ _ _, hb⟩
  · have hl : (dL s y m d (kn s y m d N)).length = kn s y m d N + 2 := len_datesL _ _ _ _ _ _ _ _ _
    rw [hl]
    exact dates_yes s y m d N w hS hY hk
  · refine (dates_many s y m d N w hS hY hk).mono ?_
    rintro e w' ⟨rfl, hb⟩
    exact ⟨none, 0, rfl, OwnL.nil _ _ _ _ _, hb⟩

end Go.Proofs.Ytainmmdlbajpnaa.Sc
