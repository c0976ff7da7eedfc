/-
  Collateral: the walks of the program's Market, Counted and Value.
-/
import Derived.Test.YtbfgnkakcnhojaaCo9
import Derived.Test.YtbfgnkakcnhojaaCoC
import Derived.Test.YtbfgnkakcnhojaaLs3
namespace Go.Proofs.Ytbfgnkakcnhojaa.Co
open Go.RowKit Go.Shelf Go.Proofs.Ytbfgnkakcnhojaa Go.Proofs.Ytbfgnkakcnhojaa.Ls Go.Proofs.Ytbfgnkakcnhojaa.Kb
open Go.Proofs.Ytbfgnkakcnhojaa.Nm hiding ret_bool ret_int
attribute [local go_sem] Oper.semAt_some

theorem ic_one (x : Int) : ∀ u ∈ ic x, u.oneCell' = true := by simp [ic, Value.oneCell']
theorem own_noncells {α : Type} {A B : World} {B0 base : Nat} {T : TypeId} {k : Nat} {f : α → List Value} {v : Value} {xs : List α} {row : Option Nat} (h : OwnL A B0 T k f v xs) (hg : A.grownBy B row) (hr : ∀ r, row = some r → base ≤ r ∧ ∃ o : Obj, A.heap[r]? = some o ∧ o.isCells = false) : OwnL B B0 T k f v xs := by
  refine World.ownsRow.kept h hg ?_
  rcases h.2 with ⟨rfl, _⟩ | ⟨g, cap, cur, rfl, _, hgg, _⟩
  · exact .inl rfl
  · refine .inr fun e => ?_
    obtain ⟨_, o, ho, hc⟩ := hr g (by rw [← e]; rfl)
    rw [hgg] at ho
    cases ho
    cases hc
theorem keeps_own {α : Type} {A B : World} {B0 : Nat} {T : TypeId} {k : Nat} {f : α → List Value} {v : Value} {xs : List α} (h : OwnL A B0 T k f v xs) (hg : A.grownBy B v.ownBlock) : KeepsOthers A B ∧ KeepsWalks A B := by
  have hr : ∀ r, v.ownBlock = some r → ∃ cs T', A.heap[r]? = some (.cells cs T' (0, 0)) := by
    intro r e
    rcases h.2 with ⟨rfl, _⟩ | ⟨g, cap, cur, rfl, _, hgg, _⟩
    · cases e
    · cases e
      exact ⟨_, _, hgg⟩
  refine ⟨⟨hg.size, fun i o hi ho => ?_⟩, ⟨hg.size, fun i o hi ho => ?_⟩⟩
  · rw [hg.block i (blk_lt hi) (fun e => ?_), hi]
    obtain ⟨cs, T', hq⟩ := hr i e.symm
    rw [hi] at hq
    cases hq
    cases ho
  · rw [hg.block i (blk_lt hi) (fun e => ?_), hi]
    obtain ⟨cs, T', hq⟩ := hr i e.symm
    rw [hi] at hq
    cases hq
    cases ho
theorem info_int : (Try.prog.info? 3).map (fun i => (i.zero, i.size, i.bytes)) = some (some (.int .i64 0), 1, 8) := by kernel_rfl
section
variable {F : Fence} {nF : Nat} (w : World) {ops : Array Oper} {rest : List Oper} {o : Oper} {a : Act} {Q : Exit → Act → World → Prop}
/-- 'append(out, x)' at numbers, inside a fence -/
theorem wpListIn_append_I (hg : o.guard = none) (s x : Operand) (hop : o.op = Op.call { callee := Callee.builtin Builtin.append, args := #[s, x], argTypes := #[35, 35] }) (B : Nat) (v : Value) (xs : List Int) (n : Nat) (hn : xs.length = n) (e : Int) (X : Nat)
    (hs : a.eval s = v) (hx : a.eval x = .slice (some ⟨X, 0, none⟩) 1 1) (hown : OwnL w B 3 1 ic v xs) (hX : w.heap[X]? = some (.cells #[.int .i64 e] 3 (0, 0))) (hl : n ≤ 1000) (hB : B ≤ w.heap.size)
    (hK : ∀ g cap w', OwnL w' B 3 1 ic (.slice (some ⟨g, 0, none⟩) (n + 1) cap) (xs ++ [e]) → w.grownBy w' v.ownBlock → wpListIn F nF Try.prog ops Q rest (a.put o.dst (.slice (some ⟨g, 0, none⟩) (n + 1) cap)) w') : wpListIn F nF Try.prog ops Q (o :: rest) a w := by
  subst hn
  obtain ⟨i0, hi0, hz0, hz1, hz2⟩ := info_parts info_int
  refine wpListIn_append_own w hg s x _ hop B 3 i0 (.int .i64 0) 1 8 Try.underlying35 hi0 hz0 hz1 hz2 rfl (by decide) v xs.length _ hs hown ⟨X, 0, none⟩ 1 1 (ic e) hx rfl (fun j u hu => World.news_of_block hX j u hu) (ic_one e) (by unfold maxLen; omega) (by omega) hB ?_
  intro v' w' h1 h2 _
  have h3 : OwnL w' B 3 1 ic v' (xs ++ [e]) := by
    unfold OwnL
    rw [List.length_append, List.flatMap_append]
    simpa using h1
  rcases h1.2 with ⟨_, h0⟩ | ⟨g, cap, cur, rfl, _⟩
  · omega
  · exact hK g cap w' h3 h2
end

set_option maxRecDepth 100000 in
set_option maxHeartbeats 2000000 in
theorem market_no (aA aI aL : Option Addr) (cA cI cL : Nat) (A : List As) (I L : List (ByteArray × Int)) (w : World) (hnA : A.length ≤ 1000) (hnI : I.length ≤ 1000) (hnL : L.length ≤ 1000) (hZA : SzA A) (hZI : SzL I) (hZL : SzL L) (hA : AtL w 6 asc aA A) (hI : AtL w 2 isc aI I) (hL : AtL w 2 isc aL L) (hF : fitB A I L = false) :
    Calls Try.prog 14 #[.agg #[.slice aA A.length cA, .slice aI I.length cI], .slice aL L.length cL] w fun e w' => e = .returned (.tuple #[.int .i64 0, .int .i64 8]) ∧ Below w.heap.size w w' := by
  have hbo : Below w.heap.size w (w.alloc (.cells #[.slice aA A.length cA, .slice aI I.length cI] 25)) := (Below.refl _ _).alloc (Nat.le_refl _) _
  have HC := Lib.hid (check_any aA aI aL cA cI cL A I L _ hnA hnI hnL hZA hZI hZL (hA.below hbo) (hI.below hbo) (hL.below hbo))
  rw [hF] at HC
  clear hF hA hI hL
  go_enter Try.func14, Try.ntmps14
  go_wp2_with fail
  refine HC.out.mono ?_
  rintro e w1 ⟨rfl, hb1⟩
  have c1 := bt hbo hb1 (Nat.le_refl _)
  clear HC
  rw [show eV false = 8 from rfl]
  go_wp2
  go_ret2
  exact ⟨rfl, c1⟩

set_option maxRecDepth 100000 in
set_option maxHeartbeats 2000000 in
theorem counted_no (aA aI aL : Option Addr) (cA cI cL : Nat) (A : List As) (I L : List (ByteArray × Int)) (w : World) (hnA : A.length ≤ 1000) (hnI : I.length ≤ 1000) (hnL : L.length ≤ 1000) (hZA : SzA A) (hZI : SzL I) (hZL : SzL L) (hA : AtL w 6 asc aA A) (hI : AtL w 2 isc aI I) (hL : AtL w 2 isc aL L) (hF : fitB A I L = false) :
    Calls Try.prog 16 #[.agg #[.slice aA A.length cA, .slice aI I.length cI], .slice aL L.length cL] w fun e w' => e = .returned (.tuple #[.slice none 0 0, .int .i64 8]) ∧ Below w.heap.size w w' := by
  have hbo : Below w.heap.size w (w.alloc (.cells #[.slice aA A.length cA, .slice aI I.length cI] 25)) := (Below.refl _ _).alloc (Nat.le_refl _) _
  have HC := Lib.hid (check_any aA aI aL cA cI cL A I L _ hnA hnI hnL hZA hZI hZL (hA.below hbo) (hI.below hbo) (hL.below hbo))
  rw [hF] at HC
  clear hF hA hI hL
  go_enter Try.func16, Try.ntmps16
  go_wp2_with fail
  refine HC.out.mono ?_
  rintro e w1 ⟨rfl, hb1⟩
  have c1 := bt hbo hb1 (Nat.le_refl _)
  clear HC
  rw [show eV false = 8 from rfl]
  go_wp2
  go_ret2
  exact ⟨rfl, c1⟩

set_option maxRecDepth 100000 in
set_option maxHeartbeats 2000000 in
theorem pvalue_no (aA aI aL : Option Addr) (cA cI cL : Nat) (A : List As) (I L : List (ByteArray × Int)) (w : World) (hnA : A.length ≤ 1000) (hnI : I.length ≤ 1000) (hnL : L.length ≤ 1000) (hZA : SzA A) (hZI : SzL I) (hZL : SzL L) (hA : AtL w 6 asc aA A) (hI : AtL w 2 isc aI I) (hL : AtL w 2 isc aL L) (hF : fitB A I L = false) :
    Calls Try.prog 18 #[.agg #[.slice aA A.length cA, .slice aI I.length cI], .slice aL L.length cL] w fun e w' => e = .returned (.tuple #[.int .i64 0, .int .i64 8]) ∧ Below w.heap.size w w' := by
  have hbo : Below w.heap.size w (w.alloc (.cells #[.slice aA A.length cA, .slice aI I.length cI] 25)) := (Below.refl _ _).alloc (Nat.le_refl _) _
  have HC := Lib.hid (check_any aA aI aL cA cI cL A I L _ hnA hnI hnL hZA hZI hZL (hA.below hbo) (hI.below hbo) (hL.below hbo))
  rw [hF] at HC
  clear hF hA hI hL
  go_enter Try.func18, Try.ntmps18
  go_wp2_with fail
  refine HC.out.mono ?_
  rintro e w1 ⟨rfl, hb1⟩
  have c1 := bt hbo hb1 (Nat.le_refl _)
  clear HC
  rw [show eV false = 8 from rfl]
  go_wp2
  go_ret2
  exact ⟨rfl, c1⟩

set_option maxRecDepth 100000 in
set_option maxHeartbeats 2000000 in
theorem pvalue_yes (aA aI aL : Option Addr) (cA cI cL : Nat) (A : List As) (I L : List (ByteArray × Int)) (w : World) (hnA : A.length ≤ 1000) (hnI : I.length ≤ 1000) (hnL : L.length ≤ 1000) (hZA : SzA A) (hZI : SzL I) (hZL : SzL L) (hA : AtL w 6 asc aA A) (hI : AtL w 2 isc aI I) (hL : AtL w 2 isc aL L) (hF : fitB A I L = true) :
    Calls Try.prog 18 #[.agg #[.slice aA A.length cA, .slice aI I.length cI], .slice aL L.length cL] w fun e w' => e = .returned (.tuple #[.int .i64 (val (mkP A L) (moF I)), .int .i64 0]) ∧ Below w.heap.size w w' := by
  have hbo : Below w.heap.size w (w.alloc (.cells #[.slice aA A.length cA, .slice aI I.length cI] 25)) := (Below.refl _ _).alloc (Nat.le_refl _) _
  have HX0 := Lib.hid (blk_new w (.cells #[.slice aA A.length cA, .slice aI I.length cI] 25))
  have HC := Lib.hid (check_any aA aI aL cA cI cL A I L _ hnA hnI hnL hZA hZI hZL (hA.below hbo) (hI.below hbo) (hL.below hbo))
  rw [hF] at HC
  have HV := Lib.hid (fun (v : World) (hv : Below w.heap.size w v) => value_any aA aI aL cA cI cL A I L v (fits_of hF) hZA hZI (hA.below hv) (hI.below hv) (hL.below hv))
  generalize val (mkP A L) (moF I) = V at HV ⊢
  clear hF hA hI hL
  go_enter Try.func18, Try.ntmps18
  go_wp2_with fail
  generalize w.alloc _ = wo at hbo HX0 HC ⊢
  refine HC.out.mono ?_
  rintro e w1 ⟨rfl, hb1⟩
  have c1 := bt hbo hb1 (Nat.le_refl _)
  have hx := blk_keep HX0.out hb1
  have hx0 : w1.cell? ⟨w.heap.size, 0, none⟩ = some (.slice aA A.length cA) := cell_of hx 0 _ rfl
  have hx1 : w1.cell? ⟨w.heap.size, 1, none⟩ = some (.slice aI I.length cI) := cell_of hx 1 _ rfl
  clear HC HX0 hx
  rw [show eV true = 0 from rfl]
  go_wp2_with fail
  refine (HV.out w1 c1).mono ?_
  rintro e w2 ⟨rfl, hb2⟩
  have c2 := bt c1 hb2 (Nat.le_refl _)
  go_wp2
  go_ret2
  exact ⟨rfl, c2⟩

set_option maxRecDepth 100000 in
set_option maxHeartbeats 2000000 in
theorem market_yes (aA aI aL : Option Addr) (cA cI cL : Nat) (A : List As) (I L : List (ByteArray × Int)) (w : World) (hnA : A.length ≤ 1000) (hnI : I.length ≤ 1000) (hnL : L.length ≤ 1000) (hZA : SzA A) (hZI : SzL I) (hZL : SzL L) (hA : AtL w 6 asc aA A) (hI : AtL w 2 isc aI I) (hL : AtL w 2 isc aL L) (hF : fitB A I L = true) :
    Calls Try.prog 14 #[.agg #[.slice aA A.length cA, .slice aI I.length cI], .slice aL L.length cL] w fun e w' => e = .returned (.tuple #[.int .i64 (mkt (mkP A L) (moF I)), .int .i64 0]) ∧ Below w.heap.size w w' := by
  have HV := Lib.hid (wval (fits_of hF)).2
  obtain ⟨V, hV⟩ : ∃ V, V = mkt (mkP A L) (moF I) := ⟨_, rfl⟩
  rw [← hV] at HV ⊢
  have HFT := Lib.hid (fits_of hF)
  have hlL := (fits_of hF).lL
  have hbo : Below w.heap.size w (w.alloc (.cells #[.slice aA A.length cA, .slice aI I.length cI] 25)) := (Below.refl _ _).alloc (Nat.le_refl _) _
  have HX0 := Lib.hid (blk_new w (.cells #[.slice aA A.length cA, .slice aI I.length cI] 25))
  have HC := Lib.hid (check_any aA aI aL cA cI cL A I L _ hnA hnI hnL hZA hZI hZL (hA.below hbo) (hI.below hbo) (hL.below hbo))
  rw [hF] at HC
  have HA := Lib.hid hA
  have HI := Lib.hid hI
  have HL := Lib.hid hL
  clear hA hI hL hF hV
  refine (callsIn_wide (n := 9)).1 ?_
  refine callsIn_of_wp_marks Try.func14 rfl trivial ?_ rfl
  simp only [Try.ntmps14, List.size_toArray, List.length_cons, List.length_nil, Nat.reduceAdd, Nat.reduceSub, Array.replicate_succ, Array.replicate_zero, List.push_toArray, List.append_toArray, List.nil_append, List.cons_append]
  gi_wp2_with fail
  generalize w.alloc _ = wo at hbo HX0 HC ⊢
  refine ⟨trivial, callsIn_wide.2 (HC.out.mono ?_)⟩
  rintro e wc ⟨rfl, hbc⟩
  have c1 := bt hbo hbc (Nat.le_refl _)
  have hx := blk_keep HX0.out hbc
  have hx0 : wc.cell? ⟨w.heap.size, 0, none⟩ = some (.slice aA A.length cA) := cell_of hx 0 _ rfl
  have hx1 : wc.cell? ⟨w.heap.size, 1, none⟩ = some (.slice aI I.length cI) := cell_of hx 1 _ rfl
  have hxl := blk_lt hx
  rw [show eV true = 0 from rfl]
  clear HC HX0 hx hbc hbo
  have hk5 := blk_new wc (.cells #[.int .i64 0] 3)
  have hb5' : Below w.heap.size w (wc.alloc (.cells #[.int .i64 0] 3)) := c1.alloc c1.size _
  obtain ⟨b5, hb5⟩ : ∃ b, b = wc.heap.size := ⟨_, rfl⟩
  have hw5b := c1.size
  rw [← hb5] at hk5
  gi_wp2_with fail
  rw [← hb5]
  generalize wc.alloc _ = w5 at hk5 hb5' ⊢
  refine ⟨trivial, callsIn_wide.2 ((all_any aA aI aL _ cA _ cI _ cL w5).mono ?_)⟩
  rintro e w1 ⟨B0, B1, rfl, g0, g1, l0, l1, hb1⟩
  have hw5 := blk_lt hk5
  have HK := Lib.hid (blk_keep hk5 hb1)
  have HB := Lib.hid (bt hb5' hb1 (Nat.le_refl _))
  have HG := Lib.hid (And.intro g0 g1)
  have hB0 := blk_lt g0
  have hB1 := blk_lt g1
  have hw1 := HB.out.size
  have hbw := blk_lt HK.out
  have HN5 := Lib.hid (show w.heap.size ≤ b5 by omega)
  have n0 : b5 ≠ B0 := by omega
  have n1 : b5 ≠ B1 := by omega
  clear hk5 hb5' hb1 g0 g1 hb5 hx0 hx1 hxl c1 hw5b
  gi_wp2
  refine wpIn_rangeFunc_ownG (F := Fence.wide) rfl (by omega) (gf := 54) (lb := #[.pointer (some ⟨B0, 0, none⟩), .pointer (some ⟨B1, 0, none⟩)]) rfl trivial (enters_of Try.func54 (by kernel_rfl) rfl)
    (all_stops aA aI aL cA cI cL A I L B0 B1 8 w w1 HFT.out hZA hZI (by omega) HA.out HI.out HL.out HB.out HG.out.1 HG.out.2) (fun h k => h.t k) (kpG_b hw1 (fun b hb => by simp only [List.mem_cons, List.not_mem_nil, or_false] at hb; omega)) (Below.refl _ _) (fun _ => rfl)
    (fun pre W => HoldB [(b5, .cells #[.int .i64 (wsm (pre.map Prod.fst))] 3)] w W)
    (fun _ _ _ => False)
    (fun pre A B row h hg hr => holdB_own (by intro p hp; simp only [List.mem_cons, List.not_mem_nil, or_false] at hp; subst hp; exact hbw) hw1 h hg hr)
    (fun c' pre A B row h hg hr => h.elim)
    (⟨by intro p hp; simp only [List.mem_cons, List.not_mem_nil, or_false] at hp; subst hp; exact HK.out, HB.out⟩)
    (fun x => { tmps := #[.agg #[.slice aA A.length cA, .slice aI I.length cI], .slice aL L.length cL, .pointer (some ⟨w.heap.size, 0, none⟩), undef, .int .i64 0, .int .i64 0, .int .i64 0, .pointer (some ⟨b5, 0, none⟩), .int .i64 x.1, .agg #[.slice aA A.length cA, .slice aI I.length cI], .slice aL L.length cL, .int .i64 0, .int .i64 0, .bool false, undef, .agg #[.slice aA A.length cA, .slice aI I.length cI], .slice aL L.length cL, .func (.func 54) #[] #[.pointer (some ⟨B0, 0, none⟩), .pointer (some ⟨B1, 0, none⟩)], .int .i64 x.1, .int .i64 x.2, undef, undef, undef, undef], defers := [] }) ?assign ?body ?done ?stop
  case assign =>
    intro l x W K' hK'
    dsimp only [encG]
    gi_wp2
    exact hK'
  case body =>
    rintro l pre x W ⟨hos, hB⟩ hlt
    have h5 := hos (b5, _) (List.mem_cons_self ..)
    have y5 := cell_of h5 0 _ rfl
    have f5 := frozen_of h5 0
    have HO := Lib.hid h5
    clear hos h5
    dsimp only at *
    gi_wp2
    have hk := kpG_set (W := W) (base := w.heap.size) (bs := [B0, B1]) (b := b5) HN5.out (by simp only [List.mem_cons, List.not_mem_nil, or_false, not_or]; exact ⟨n0, n1⟩)
    refine ⟨(KeepsOthers.setCell _ _ _).from _, hk _, fun p hp => ?_, hB.trans (hk _).2.2⟩
    simp only [List.mem_cons, List.not_mem_nil, or_false] at hp
    subst hp
    rw [List.map_append, List.map_cons, List.map_nil, wsm_snoc]
    exact set1 HO.out _
  case done =>
    rintro D ys W hD rfl ⟨hos, hB⟩ hK'
    have h5 := hos (b5, _) (List.mem_cons_self ..)
    rw [HV.out] at h5
    have y5 := cell_of h5 0 _ rfl
    have HBB := Lib.hid (hB.trans (show Below w.heap.size W (W.putObj D (.deferred none)) from (kpG_b hw1 (bs := []) (fun b hb => by cases hb) W D _ (.deferred none) (by omega) hK' rfl rfl).2.2))
    have HK' := Lib.hid hK'
    clear hos h5
    gi_wp2
    refine ⟨by simp, .inl ⟨_, _, rfl, run_takeDeferred HK'.out, ?_⟩⟩
    exact ⟨.tuple #[.int .i64 V, .int .i64 0], by simp [results, Try.results14, go_sem], rfl, HBB.out⟩
  case stop =>
    rintro D c' pre' W hD hSp h hK'
    exact h.elim

set_option maxRecDepth 100000 in
set_option maxHeartbeats 2000000 in
theorem counted_yes (aA aI aL : Option Addr) (cA cI cL : Nat) (A : List As) (I L : List (ByteArray × Int)) (w : World) (hnA : A.length ≤ 1000) (hnI : I.length ≤ 1000) (hnL : L.length ≤ 1000) (hZA : SzA A) (hZI : SzL I) (hZL : SzL L) (hA : AtL w 6 asc aA A) (hI : AtL w 2 isc aI I) (hL : AtL w 2 isc aL L) (hF : fitB A I L = true) :
    Calls Try.prog 16 #[.agg #[.slice aA A.length cA, .slice aI I.length cI], .slice aL L.length cL] w fun e w' => ∃ a c, e = .returned (.tuple #[.slice a L.length c, .int .i64 0]) ∧ OwnL w' w.heap.size 3 1 ic (.slice a L.length c) ((gl (mkP A L) (moF I)).map Prod.snd) ∧ Below w.heap.size w w' := by
  obtain ⟨V, hV⟩ : ∃ V, V = (gl (mkP A L) (moF I)).map Prod.snd := ⟨_, rfl⟩
  rw [← hV]
  have HV := Lib.hid hV.symm
  have HGLN := Lib.hid (show (gl (mkP A L) (moF I)).length = L.length by rw [gl_len, mkP_len])
  have HFT := Lib.hid (fits_of hF)
  have hlL := (fits_of hF).lL
  have hbo : Below w.heap.size w (w.alloc (.cells #[.slice aA A.length cA, .slice aI I.length cI] 25)) := (Below.refl _ _).alloc (Nat.le_refl _) _
  have HX0 := Lib.hid (blk_new w (.cells #[.slice aA A.length cA, .slice aI I.length cI] 25))
  have HC := Lib.hid (check_any aA aI aL cA cI cL A I L _ hnA hnI hnL hZA hZI hZL (hA.below hbo) (hI.below hbo) (hL.below hbo))
  rw [hF] at HC
  have HA := Lib.hid hA
  have HI := Lib.hid hI
  have HL := Lib.hid hL
  clear hA hI hL hF hV
  refine (callsIn_wide (n := 9)).1 ?_
  refine callsIn_of_wp_marks Try.func16 rfl trivial ?_ rfl
  simp only [Try.ntmps16, List.size_toArray, List.length_cons, List.length_nil, Nat.reduceAdd, Nat.reduceSub, Array.replicate_succ, Array.replicate_zero, List.push_toArray, List.append_toArray, List.nil_append, List.cons_append]
  gi_wp2_with fail
  generalize w.alloc _ = wo at hbo HX0 HC ⊢
  refine ⟨trivial, callsIn_wide.2 (HC.out.mono ?_)⟩
  rintro e wc ⟨rfl, hbc⟩
  have c1 := bt hbo hbc (Nat.le_refl _)
  have hx := blk_keep HX0.out hbc
  have hx0 : wc.cell? ⟨w.heap.size, 0, none⟩ = some (.slice aA A.length cA) := cell_of hx 0 _ rfl
  have hx1 : wc.cell? ⟨w.heap.size, 1, none⟩ = some (.slice aI I.length cI) := cell_of hx 1 _ rfl
  have hxl := blk_lt hx
  rw [show eV true = 0 from rfl]
  clear HC HX0 hx hbc hbo
  have hk5 := blk_new wc (.cells #[.slice none 0 0] 35)
  have hb5' : Below w.heap.size w (wc.alloc (.cells #[.slice none 0 0] 35)) := c1.alloc c1.size _
  obtain ⟨b5, hb5⟩ : ∃ b, b = wc.heap.size := ⟨_, rfl⟩
  have hw5b := c1.size
  rw [← hb5] at hk5
  gi_wp2_with fail
  rw [← hb5]
  generalize wc.alloc _ = w5 at hk5 hb5' ⊢
  refine ⟨trivial, callsIn_wide.2 ((all_any aA aI aL _ cA _ cI _ cL w5).mono ?_)⟩
  rintro e w1 ⟨B0, B1, rfl, g0, g1, l0, l1, hb1⟩
  have hw5 := blk_lt hk5
  have HK := Lib.hid (blk_keep hk5 hb1)
  have HB := Lib.hid (bt hb5' hb1 (Nat.le_refl _))
  have HG := Lib.hid (And.intro g0 g1)
  have hB0 := blk_lt g0
  have hB1 := blk_lt g1
  have hw1 := HB.out.size
  have hbw := blk_lt HK.out
  have HN5 := Lib.hid (show w.heap.size ≤ b5 by omega)
  have n0 : b5 ≠ B0 := by omega
  have n1 : b5 ≠ B1 := by omega
  clear hk5 hb5' hb1 g0 g1 hb5 hx0 hx1 hxl c1 hw5b
  gi_wp2
  refine wpIn_rangeFunc_ownG (F := Fence.wide) rfl (by omega) (gf := 54) (lb := #[.pointer (some ⟨B0, 0, none⟩), .pointer (some ⟨B1, 0, none⟩)]) rfl trivial (enters_of Try.func54 (by kernel_rfl) rfl)
    (all_stops aA aI aL cA cI cL A I L B0 B1 8 w w1 HFT.out hZA hZI (by omega) HA.out HI.out HL.out HB.out HG.out.1 HG.out.2) (fun h k => h.t k) (kpG_b hw1 (fun b hb => by simp only [List.mem_cons, List.not_mem_nil, or_false] at hb; omega)) (Below.refl _ _) (fun _ => rfl)
    (fun pre W => ∃ a c, W.heap[b5]? = some (.cells #[.slice a pre.length c] 35 (0, 0)) ∧ OwnL W w1.heap.size 3 1 ic (.slice a pre.length c) (pre.map Prod.snd) ∧ Below w.heap.size w W ∧ w1.heap.size ≤ W.heap.size)
    (fun _ _ _ => False)
    (fun pre A B row h hg hr => by obtain ⟨a, c, h1, h2, h3, h4⟩ := h; exact ⟨a, c, by rw [hg.block b5 (blk_lt h1) (fun e => by have := (hr b5 e.symm).1; omega), h1], own_noncells h2 hg hr, h3.grown hg h3.size (fun r e => Nat.le_trans hw1 (hr r e).1), Nat.le_trans h4 hg.size⟩)
    (fun c' pre A B row h hg hr => h.elim)
    (⟨none, 0, HK.out, OwnL.nil _ _ _ _ _, HB.out, Nat.le_refl _⟩)
    (fun x => { tmps := #[.agg #[.slice aA A.length cA, .slice aI I.length cI], .slice aL L.length cL, .pointer (some ⟨w.heap.size, 0, none⟩), undef, .slice none 0 0, .int .i64 0, .int .i64 0, .pointer (some ⟨b5, 0, none⟩), undef, .int .i64 x.2, .agg #[.slice aA A.length cA, .slice aI I.length cI], .slice aL L.length cL, .int .i64 0, .int .i64 0, .bool false, undef, .agg #[.slice aA A.length cA, .slice aI I.length cI], .slice aL L.length cL, .func (.func 54) #[] #[.pointer (some ⟨B0, 0, none⟩), .pointer (some ⟨B1, 0, none⟩)], .int .i64 x.1, .int .i64 x.2, undef, undef, undef, undef, undef], defers := [] }) ?assign ?body ?done ?stop
  case assign =>
    intro l x W K' hK'
    dsimp only [encG]
    gi_wp2
    exact hK'
  case body =>
    rintro l pre x W ⟨a5, c5, h5, hO, hB, hW1⟩ hlt
    have y5 : W.cell? ⟨b5, 0, none⟩ = some (.slice a5 pre.length c5) := cell_of h5 0 _ rfl
    have f5 := frozen_of h5 0
    have HO5 := Lib.hid h5
    have HO := Lib.hid hO
    have hb5l := blk_lt h5
    have hWs := hB.size
    have HO1 := Lib.hid (show OwnL (W.alloc (.cells #[.int .i64 x.2] 3)) w1.heap.size 3 1 ic (.slice a5 pre.length c5) (pre.map Prod.snd) from hO.below ((Below.refl _ _).alloc (Nat.le_refl _) _))
    have HNB := Lib.hid (blk_new W (.cells #[.int .i64 x.2] 3))
    have hgb : ∀ r, (Value.slice a5 pre.length c5).ownBlock = some r → w1.heap.size ≤ r := fun r e => (hO.lt r e).1
    have HGB := Lib.hid hgb
    clear h5 hO hgb
    gi_wp2_with (gi_at_builtin; refine wpListIn_append_I (W.alloc (.cells #[.int .i64 x.2] 3)) rfl _ _ rfl w1.heap.size (.slice a5 pre.length c5) (pre.map Prod.snd) pre.length (by simp) x.2 W.heap.size rfl rfl HO1.out HNB.out (by omega) (by simp; omega) ?_; intro g3 c3 w3 ho3 hg3; have hs3 := hg3.size; have h53 : w3.heap[b5]? = some (.cells #[.slice a5 pre.length c5] 35 (0, 0)) := (by rw [hg3.block b5 (by simp; omega) (fun e => by have := HGB.out b5 e.symm; omega)]; exact blk_past W _ HO5.out); have y53 := cell_of h53 0 _ rfl; have f53 := frozen_of h53 0; have l53 := blk_lt h53; have HG3 := Lib.hid hg3; have HH3 := Lib.hid ho3; have HB53 := Lib.hid h53; clear hg3 ho3 h53)
    obtain ⟨ko, kw⟩ := keeps_own HO1.out HG3.out
    have hlow : Below w.heap.size W w3 := ((Below.refl _ _).alloc hWs _).grown HG3.out (by simp; omega) (fun r e => by have := HGB.out r e; omega)
    have hset : Below w.heap.size W (w3.setCell ⟨b5, 0, none⟩ (.slice (some ⟨g3, 0, none⟩) (pre.length + 1) c3)) := hlow.setCell (p := ⟨b5, 0, none⟩) HN5.out _
    refine ⟨(((KeepsOthers.alloc W _).trans ko).trans (KeepsOthers.setCell _ _ _)).from _, ⟨((KeepsWalks.alloc W _).trans kw).trans (KeepsWalks.setCell _ _ _), fun c hc => ?_, hset⟩, some ⟨g3, 0, none⟩, c3, ?_, ?_, hB.trans hset, ?_⟩
    · simp only [List.mem_cons, List.not_mem_nil, or_false] at hc
      have hcb : c ≠ b5 ∧ c < w1.heap.size := by omega
      rw [Below.heap_setCell _ ⟨b5, 0, none⟩ _ c hcb.1, HG3.out.block c (by simp; omega) (fun e => by have := HGB.out c e.symm; omega)]
      exact Below.heap_alloc W _ c (by omega)
    · rw [List.length_append, List.length_singleton]
      exact set1 HB53.out _
    · rw [List.length_append, List.length_singleton, List.map_append, List.map_cons, List.map_nil]
      refine HH3.out.far ?_ _
      intro e
      have := (HH3.out.lt b5 e).1
      omega
    · have := hset.size
      omega
  case done =>
    rintro D ys W hD rfl ⟨a5, c5, h5, hO, hB, _⟩ hK'
    rw [HV.out] at hO
    rw [HGLN.out] at hO h5
    have y5 := cell_of h5 0 _ rfl
    have hpo : W.grownBy (W.putObj D (.deferred none)) (some D) := grownBy_putObj' W D (.deferred none)
    have hO2 := own_noncells (base := 0) hO hpo (fun r e => by cases e; exact ⟨Nat.zero_le _, _, hK', rfl⟩)
    have HOO := Lib.hid (hO2.lower' hw1)
    have HBB := Lib.hid (hB.trans (show Below w.heap.size W (W.putObj D (.deferred none)) from (kpG_b hw1 (bs := []) (fun b hb => by cases hb) W D _ (.deferred none) (by omega) hK' rfl rfl).2.2))
    have HK' := Lib.hid hK'
    clear h5 hO hO2 hpo
    gi_wp2
    refine ⟨by simp, .inl ⟨_, _, rfl, run_takeDeferred HK'.out, ?_⟩⟩
    exact ⟨.tuple #[.slice a5 L.length c5, .int .i64 0], by simp [results, Try.results16, go_sem], _, _, rfl, HOO.out, HBB.out⟩
  case stop =>
    rintro D c' pre' W hD hSp h hK'
    exact h.elim

end Go.Proofs.Ytbfgnkakcnhojaa.Co
