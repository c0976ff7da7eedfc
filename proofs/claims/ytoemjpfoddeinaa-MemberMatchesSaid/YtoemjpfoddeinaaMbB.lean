/-
  The library's slices.Clone, slices.Delete, slices.Insert at novation/api.Member.
-/
import Derived.Test.YtoemjpfoddeinaaMb3
import Derived.Test.YtoemjpfoddeinaaLs4
import Derived.Shelf.RegionOpenPlain
import Derived.IntWalk
namespace Go.Proofs.Ytoemjpfoddeinaa.Mb
open Go.RowKit Go.Proofs.Ytoemjpfoddeinaa Go.Proofs.Ytoemjpfoddeinaa.Ls Go.Proofs.Ytoemjpfoddeinaa.Kb

theorem info_mec : (Try.prog.info? 30).map (fun i => (i.zero, i.size, i.bytes)) = some (some (Value.agg #[.string ⟨#[]⟩, .int .u8 0, .bool false, .int .i64 0, .slice none 0 0]), 5, 56) := by kernel_rfl
theorem size_mec : (Try.prog.info? 30).map (·.size) = some 5 := by kernel_rfl
theorem zero_mec (w : World) : (zeroValue 30).run Try.prog w = .ok (Value.agg #[.string ⟨#[]⟩, .int .u8 0, .bool false, .int .i64 0, .slice none 0 0]) w := Try.zeroValue30 w

set_option maxRecDepth 100000 in
set_option maxHeartbeats 4000000 in
/-- one element less, in place -/
theorem delete_mec (g cap i B : Nat) (L : List (P)) (w : World) (hi : i < L.length) (hn : L.length ≤ 1000) (hO : OwnL w B 30 5 mec (.slice (some ⟨g, 0, none⟩) L.length cap) L) :
    Calls Try.prog 44 #[.slice (some ⟨g, 0, none⟩) L.length cap, .int .i64 i, .int .i64 ((i : Int) + 1)] w fun e w' =>
      e = .returned (.slice (some ⟨g, 0, none⟩) (L.length - 1) cap) ∧ OwnL w' B 30 5 mec (.slice (some ⟨g, 0, none⟩) (L.length - 1) cap) (L.take i ++ L.drop (i + 1)) ∧ w.grownBy w' (some g) := by
  have hcap : L.length ≤ cap ∧ cap ≤ maxLen := by obtain ⟨_, _, _, h3, h4, _⟩ := hO.row'; exact ⟨h3, h4⟩
  have hth := hO.there
  have hcl := hO.cell mec_len
  have hD : OwnL w.drew B 30 5 mec (.slice (some ⟨g, 0, none⟩) L.length cap) L := hO
  obtain ⟨n, hnL⟩ : ∃ n, n = L.length := ⟨_, rfl⟩
  obtain ⟨hc1, hc2⟩ := hcap
  unfold maxLen at hc2
  obtain ⟨A, hA, hsrc⟩ : ∃ A : Addr, (if cap = i + 1 then some (⟨g, 0, none⟩ : Addr) else some ⟨g, (i + 1) * 5, none⟩) = some A ∧ ∀ t u, ((L.drop (i + 1)).flatMap mec)[t]? = some u → w.drew.cell? (A.add t) = some u := by
    by_cases h : cap = i + 1
    · refine ⟨⟨g, 0, none⟩, by simp [h], fun t u hu => ?_⟩
      rw [List.drop_of_length_le (by omega)] at hu
      simp at hu
    · refine ⟨⟨g, (i + 1) * 5, none⟩, by simp [h], fun t u hu => ?_⟩
      rw [Addr.add_lit]
      exact hcl (i + 1) t u hu
  have hdl : (L.drop (i + 1)).length = L.length - (i + 1) := List.length_drop
  have hfl : ((L.drop (i + 1)).flatMap mec).length = (L.length - (i + 1)) * 5 := by rw [flat_len mec 5 mec_len, hdl]
  have h1c : ∀ u ∈ (L.drop (i + 1)).flatMap mec, u.oneCell' = true := fun u hu => by
    obtain ⟨x, _, hx⟩ := List.mem_flatMap.1 hu
    exact mec_one x u hx
  have hap : ∀ ty, (Builtin.append_ #[22, 22] ty #[.slice (some ⟨g, 0, none⟩) i cap, .slice (some A) (L.length - (i + 1)) (cap - (i + 1))]).run Try.prog w.drew = .ok (.slice (some ⟨g, 0, none⟩) (i + (L.length - (i + 1))) cap) (w.drew.setCells g (0 + i * 5) ((L.drop (i + 1)).flatMap mec)) := fun ty =>
    run_append_room_k w.drew 22 ty 30 5 Try.underlying22 size_mec g 0 i cap A (L.length - (i + 1)) (cap - (i + 1)) _ hfl hsrc h1c (by omega) (fun j hj => by
      rw [hfl] at hj
      exact hth _ (by have : (i + (L.length - (i + 1))) * 5 ≤ cap * 5 := Nat.mul_le_mul_right _ (by omega); rw [Nat.add_mul] at this; omega))
  have hO1 : OwnL (w.drew.setCells g (0 + i * 5) ((L.drop (i + 1)).flatMap mec)) B 30 5 mec (.slice (some ⟨g, 0, none⟩) (L.length - 1) cap) (L.take i ++ L.drop (i + 1)) := by
    have hz : (L.take i ++ L.drop (i + 1)).length = L.length - 1 := by rw [List.length_append, List.length_take, hdl]; omega
    exact hD.write mec_len i (L.drop (i + 1)) (by omega) (by rw [hdl]; omega) (L.length - 1) _ (List.take_left' hz).symm hz _ (by omega) _ rfl
  have hg1 : w.grownBy (w.drew.setCells g (0 + i * 5) ((L.drop (i + 1)).flatMap mec)) (some g) := by
    have h := grown_setCells w.drew g (0 + i * 5) ((L.drop (i + 1)).flatMap mec)
    exact ⟨h.os, h.tape, h.output, h.size, h.block⟩
  generalize w.drew.setCells g _ _ = W1 at hap hO1 hg1
  have hO1' := hO1
  have hl1 : (L.take i ++ L.drop (i + 1)).length = L.length - 1 := by rw [List.length_append, List.length_take, hdl]; omega
  rw [← hl1] at hO1'
  have hclr : ∀ ty, (Builtin.clear_ #[22] ty #[.slice (some ⟨g, (i + (L.length - (i + 1))) * 5, none⟩) (L.length - (i + (L.length - (i + 1)))) (cap - (i + (L.length - (i + 1))))]).run Try.prog W1 = .ok (.tuple #[]) (W1.setCells g ((i + (L.length - (i + 1))) * 5) (mec (p0 : P))) := fun ty => by
    rw [show L.length - (i + (L.length - (i + 1))) = 1 by omega]
    refine run_clear_one W1 _ _ ty (Value.agg #[.string ⟨#[]⟩, .int .u8 0, .bool false, .int .i64 0, .slice none 0 0]) Try.underlying22 zero_mec g _ _ (by decide) (fun j hj => ?_) (fun j hj => ?_)
    · change j < 5 at hj
      exact (hO1'.there _ (by have : (i + (L.length - (i + 1)) + 1) * 5 ≤ cap * 5 := Nat.mul_le_mul_right _ (by omega); rw [Nat.add_mul] at this; omega)).1
    · change j < 5 at hj
      exact (hO1'.there _ (by have : (i + (L.length - (i + 1)) + 1) * 5 ≤ cap * 5 := Nat.mul_le_mul_right _ (by omega); rw [Nat.add_mul] at this; omega)).2
  have hO2 : OwnL (W1.setCells g ((i + (L.length - (i + 1))) * 5) (mec (p0 : P))) B 30 5 mec (.slice (some ⟨g, 0, none⟩) (L.length - 1) cap) (L.take i ++ L.drop (i + 1)) := by
    have e : i + (L.length - (i + 1)) = L.length - 1 := by omega
    clear hclr hap hfl hsrc
    generalize L.take i ++ L.drop (i + 1) = zs at hO1' hl1 ⊢
    refine hO1'.write mec_len (L.length - 1) [(p0 : P)] (by omega) (by simp only [List.length_singleton]; omega) (L.length - 1) zs ?_ hl1 _ (by rw [e]) _ (by simp)
    rw [show zs.take (L.length - 1) = zs from List.take_of_length_le (by omega), List.append_assoc]
    exact (List.take_left' hl1).symm
  have hg2 : w.grownBy (W1.setCells g ((i + (L.length - (i + 1))) * 5) (mec (p0 : P))) (some g) := by
    have h2 := grown_setCells W1 g ((i + (L.length - (i + 1))) * 5) (mec (p0 : P))
    exact ⟨h2.os.trans hg1.os, h2.tape.trans hg1.tape, h2.output.trans hg1.output, Nat.le_trans hg1.size h2.size, fun k hk hne => (h2.block k (Nat.lt_of_lt_of_le hk hg1.size) hne).trans (hg1.block k hk hne)⟩
  generalize W1.setCells g _ _ = W2 at hclr hO2 hg2
  have HO2 := Lib.hid hO2
  have HG2 := Lib.hid hg2
  have HAP := Lib.hid hap
  have HCL := Lib.hid hclr
  have HLE := Lib.hid (show i + (L.length - (i + 1)) = L.length - 1 by omega)
  clear hO hth hcl hD hsrc hdl hfl h1c hap hO1 hg1 hO1' hl1 hclr hO2 hg2 hnL
  have e0 : ¬ ((i : Int) = (i : Int) + 1) := by omega
  have e1 : (0 : Int) ≤ (i : Int) + 1 := by omega
  have e2 : (i : Int) + 1 ≤ (L.length : Int) := by omega
  have e3 : ((i : Int) + 1).toNat = i + 1 := by omega
  have e4 : ¬ (cap = i) := by omega
  have e5 : i ≤ cap := by omega
  have e6 : i + 1 ≤ cap := by omega
  go_enter Try.func44, Try.ntmps44
  go_wp2_with fail
  go_region_law (refine step_append_runL rfl _ _ 22 22 rfl (.slice (some ⟨g, 0, none⟩) i cap) (.slice (some A) (L.length - (i + 1)) (cap - (i + 1))) (by simp [Act.eval, Act.put]) (by simp [Act.eval, Act.put]) (HAP.out _) ?_)
  have e7 : i + (L.length - (i + 1)) ≤ cap := by omega
  have e8 : i + (L.length - (i + 1)) ≤ L.length := by omega
  have e9 : ¬ (cap = i + (L.length - (i + 1))) := by omega
  have e10 : ¬ (L.length - (i + (L.length - (i + 1))) = 0) := by omega
  have hclr := HCL.out
  go_wp2
  go_ret
  exact ⟨by rw [HLE.out]; rfl, HO2.out, HG2.out⟩

set_option maxRecDepth 100000 in
set_option maxHeartbeats 1000000 in
/-- one element more, at the end -/
theorem insert_end_mec (a : Option Addr) (cap B X : Nat) (L : List (P)) (x : P) (cs : Array Value) (w : World) (hn : L.length ≤ 1000) (hB : B ≤ w.heap.size) (hO : OwnL w B 30 5 mec (.slice a L.length cap) L) (hX : w.heap[X]? = some (.cells cs 30 (0, 0))) (hcs : cs.toList = mec x) :
    Calls Try.prog 43 #[.slice a L.length cap, .int .i64 L.length, .slice (some ⟨X, 0, none⟩) 1 1] w fun e w' =>
      ∃ a' c', e = .returned (.slice a' (L.length + 1) c') ∧ OwnL w' B 30 5 mec (.slice a' (L.length + 1) c') (L.take L.length ++ x :: L.drop L.length) ∧ w.grownBy w' (Value.slice a L.length cap).ownBlock ∧ (∀ b, (Value.slice a' (L.length + 1) c').ownBlock = some b → (Value.slice a L.length cap).ownBlock = some b ∨ w.heap.size ≤ b) := by
  have ha : a = none ∨ ∃ g, a = some ⟨g, 0, none⟩ := by
    rcases hO.2 with ⟨h, _⟩ | ⟨g, _, _, h, _⟩
    · exact .inl (Value.slice.inj h).1
    · exact .inr ⟨g, (Value.slice.inj h).1⟩
  have hcap : L.length ≤ cap ∧ cap ≤ maxLen := by
    rcases hO.2 with ⟨h, h2⟩ | ⟨g, _, _, h, h2, _, h3, h4, _⟩
    · obtain ⟨_, _, rfl⟩ := Value.slice.inj h
      exact ⟨by omega, by unfold maxLen; omega⟩
    · obtain ⟨_, _, rfl⟩ := Value.slice.inj h
      exact ⟨h3, h4⟩
  obtain ⟨hc1, hc2⟩ := hcap
  unfold maxLen at hc2
  have HO := Lib.hid hO
  have HX := Lib.hid hX
  have HC := Lib.hid hcs
  have e1 : (0 : Int) ≤ (L.length : Int) := by omega
  clear hO hX hcs
  rw [List.take_length, List.drop_length]
  rcases ha with rfl | ⟨g, rfl⟩
  · go_enter Try.func43, Try.ntmps43
    go_wp2_with (at_builtin; refine wpList_append_L (P := Try.prog) (α := P) rfl _ _ _ rfl 30 (Value.agg #[.string ⟨#[]⟩, .int .u8 0, .bool false, .int .i64 0, .slice none 0 0]) 5 56 Try.underlying22 info_mec rfl (by decide) B mec (.slice none L.length cap) L x X cs rfl rfl HO.out HX.out HC.out (mec_len x) (mec_one x) (by unfold maxLen; omega) (by omega) hB ?_; intro g3 c3 w3 ho3 hg3 hat3)
    all_goals
      have HO3 := Lib.hid ho3
      have HG3 := Lib.hid hg3
      have HT3 := Lib.hid hat3
      clear ho3 hg3 hat3
      go_ret
      exact ⟨_, _, rfl, HO3.out, HG3.out, fun b hb => by cases hb; exact HT3.out.elim .inl fun h => .inr (Nat.le_of_eq h.symm)⟩
  · go_enter Try.func43, Try.ntmps43
    go_wp2_with (at_builtin; refine wpList_append_L (P := Try.prog) (α := P) rfl _ _ _ rfl 30 (Value.agg #[.string ⟨#[]⟩, .int .u8 0, .bool false, .int .i64 0, .slice none 0 0]) 5 56 Try.underlying22 info_mec rfl (by decide) B mec (.slice (some ⟨g, 0, none⟩) L.length cap) L x X cs rfl rfl HO.out HX.out HC.out (mec_len x) (mec_one x) (by unfold maxLen; omega) (by omega) hB ?_; intro g3 c3 w3 ho3 hg3 hat3)
    all_goals
      have HO3 := Lib.hid ho3
      have HG3 := Lib.hid hg3
      have HT3 := Lib.hid hat3
      clear ho3 hg3 hat3
      go_ret
      exact ⟨_, _, rfl, HO3.out, HG3.out, fun b hb => by cases hb; exact HT3.out.elim .inl fun h => .inr (Nat.le_of_eq h.symm)⟩

theorem flat_one_mec (L : List (P)) : ∀ u ∈ L.flatMap mec, u.oneCell' = true := fun u hu => by
  obtain ⟨x, _, hx⟩ := List.mem_flatMap.1 hu
  exact mec_one x u hx
set_option maxRecDepth 100000 in
set_option maxHeartbeats 4000000 in
/-- one element more, where there is room -/
theorem insert_room_mec (g i cap B X : Nat) (L : List (P)) (x : P) (cs : Array Value) (w : World) (hi : i < L.length) (hn : L.length ≤ 1000) (hc : L.length + 1 ≤ cap) (hO : OwnL w B 30 5 mec (.slice (some ⟨g, 0, none⟩) L.length cap) L) (hX : w.heap[X]? = some (.cells cs 30 (0, 0))) (hcs : cs.toList = mec x) (hne : X ≠ g) :
    Calls Try.prog 43 #[.slice (some ⟨g, 0, none⟩) L.length cap, .int .i64 i, .slice (some ⟨X, 0, none⟩) 1 1] w fun e w' =>
      e = .returned (.slice (some ⟨g, 0, none⟩) (L.length + 1) cap) ∧ OwnL w' B 30 5 mec (.slice (some ⟨g, 0, none⟩) (L.length + 1) cap) (L.take i ++ x :: L.drop i) ∧ w.grownBy w' (some g) := by
  obtain ⟨cur, _, hg, _, hc2, hcs2, _⟩ := hO.row'
  have hth := hO.there
  have hcl := hO.cell mec_len
  have hD : OwnL w.drew B 30 5 mec (.slice (some ⟨g, 0, none⟩) L.length cap) L := hO
  have hov : ∀ lb cb o, (callFunc 79 #[.slice (some ⟨X, 0, none⟩) 1 1, .slice (some ⟨g, o, none⟩) lb cb]).run Try.prog w = .ok (.value (.bool false)) w := fun lb cb o => by
    rw [run_callFunc_extern Try.func79 (by kernel_rfl) (by kernel_rfl) (by kernel_rfl) (e := Extern.SlicesOverlaps.overlaps #[22, 22] #[4]) (by kernel_rfl),
      Lib.run_overlaps_apart w 22 4 30 Try.underlying22 5 (fun w => Try.sizeOf30 w) ⟨X, 0, none⟩ ⟨g, o, none⟩ 1 1 lb cb hne 30 30 cs.size cur.size (by simp [World.shape?, hX]) (by simp [World.shape?, hg]) (by rw [hcs2]; have : 1 * 5 ≤ cap * 5 := Nat.mul_le_mul_right _ (by omega); omega) (by simp [World.frozen?, hX]) (by simp [World.frozen?, hX])]
    rfl
  have hdl : (L.drop i).length = L.length - i := List.length_drop
  have htl : (L.take (i + 1)).length = i + 1 := by rw [List.length_take]; omega
  have hfl : ((L.drop i).flatMap mec).length = (L.length - i) * 5 := by rw [flat_len mec 5 mec_len, hdl]
  have hkc : ∀ t, t ≤ cap → t * 5 ≤ cap * 5 := fun t ht => Nat.mul_le_mul_right _ ht
  have hcp1 : ∀ ty dc sc, (Builtin.copy_ #[22, 22] ty #[.slice (some ⟨g, (i + 1) * 5, none⟩) (L.length + 1 - (i + 1)) dc, .slice (some ⟨g, i * 5, none⟩) (L.length + 1 - i) sc]).run Try.prog w.drew = .ok (goInt (L.length - i : Nat)) (w.drew.setCells g ((i + 1) * 5) ((L.drop i).flatMap mec)) := fun ty dc sc =>
    run_copy_k w.drew 22 22 ty 30 5 g _ _ dc ⟨g, i * 5, none⟩ _ sc (L.length - i) _ Try.underlying22 size_mec (by simp only [Nat.min_def]; split <;> omega) hfl (fun j u hu => by rw [Addr.add_lit]; exact hcl i j u hu)
      (fun j hj => by rw [hfl] at hj; have := hkc (i + 1 + (L.length - i)) (by omega); rw [Nat.add_mul] at this; exact (hth _ (by omega)).1)
      (fun j hj => by rw [hfl] at hj; have := hkc (i + 1 + (L.length - i)) (by omega); rw [Nat.add_mul] at this; exact (hth _ (by omega)).2) (flat_one_mec _)
  have hz : (L.take (i + 1) ++ L.drop i).length = L.length + 1 := by rw [List.length_append, htl, hdl]; omega
  have hO1 : OwnL (w.drew.setCells g ((i + 1) * 5) ((L.drop i).flatMap mec)) B 30 5 mec (.slice (some ⟨g, 0, none⟩) (L.length + 1) cap) (L.take (i + 1) ++ L.drop i) :=
    hD.write mec_len (i + 1) (L.drop i) (by omega) (by rw [hdl]; omega) (L.length + 1) _ (List.take_left' hz).symm hz _ rfl _ rfl
  have hg1 : w.grownBy (w.drew.setCells g ((i + 1) * 5) ((L.drop i).flatMap mec)) (some g) := by
    have h := grown_setCells w.drew g ((i + 1) * 5) ((L.drop i).flatMap mec)
    exact ⟨h.os, h.tape, h.output, h.size, h.block⟩
  generalize w.drew.setCells g _ _ = W1 at hcp1 hO1 hg1
  have hX1 : W1.heap[X]? = some (.cells cs 30 (0, 0)) := by rw [hg1.block X ((Array.getElem?_eq_some_iff.1 hX).1) (fun e => hne (Option.some.inj e)), hX]
  rw [← hz] at hO1
  have hth1 := hO1.there
  have hfx : (mec x).length = 1 * 5 := by rw [mec_len, Nat.one_mul]
  have hcp2 : ∀ ty dc, (Builtin.copy_ #[22, 22] ty #[.slice (some ⟨g, i * 5, none⟩) (L.length + 1 - i) dc, .slice (some ⟨X, 0, none⟩) 1 1]).run Try.prog W1 = .ok (goInt (1 : Nat)) (W1.setCells g (i * 5) (mec x)) := fun ty dc =>
    run_copy_k W1 22 22 ty 30 5 g _ _ dc ⟨X, 0, none⟩ 1 1 1 _ Try.underlying22 size_mec (by simp only [Nat.min_def]; split <;> omega) hfx (fun j u hu => World.news_of_block hX1 j u (by rw [hcs]; exact hu))
      (fun j hj => by rw [hfx] at hj; have := hkc (i + 1) (by omega); rw [Nat.add_mul] at this; exact (hth1 _ (by omega)).1)
      (fun j hj => by rw [hfx] at hj; have := hkc (i + 1) (by omega); rw [Nat.add_mul] at this; exact (hth1 _ (by omega)).2) (mec_one x)
  have hz2 : (L.take i ++ x :: L.drop i).length = L.length + 1 := by rw [List.length_append, List.length_take, List.length_cons, hdl]; omega
  have hO2 : OwnL (W1.setCells g (i * 5) (mec x)) B 30 5 mec (.slice (some ⟨g, 0, none⟩) (L.length + 1) cap) (L.take i ++ x :: L.drop i) := by
    refine hO1.write mec_len i [x] (by omega) (by simp only [List.length_singleton]; omega) (L.length + 1) _ ?_ hz2 _ rfl _ (by simp)
    have ht : (L.take (i + 1) ++ L.drop i).take i = L.take i := by rw [List.take_append_of_le_length (by omega), List.take_take, Nat.min_eq_left (by omega)]
    rw [ht, List.length_singleton, List.drop_left' htl, List.append_assoc, List.singleton_append]
    exact (List.take_of_length_le (by omega)).symm
  have hg2 : w.grownBy (W1.setCells g (i * 5) (mec x)) (some g) := by
    have h2 := grown_setCells W1 g (i * 5) (mec x)
    exact ⟨h2.os.trans hg1.os, h2.tape.trans hg1.tape, h2.output.trans hg1.output, Nat.le_trans hg1.size h2.size, fun k hk hne => (h2.block k (Nat.lt_of_lt_of_le hk hg1.size) hne).trans (hg1.block k hk hne)⟩
  generalize W1.setCells g _ _ = W2 at hcp2 hO2 hg2
  have HO2 := Lib.hid hO2
  have HG2 := Lib.hid hg2
  have HC1 := Lib.hid hcp1
  have HC2 := Lib.hid hcp2
  have HOV := Lib.hid hov
  have hcc : cap ≤ 9223372036854775807 := by unfold maxLen at hc2; omega
  clear hO hth hcl hD hov hdl htl hfl hkc hcp1 hz hO1 hg1 hX hX1 hth1 hfx hcp2 hz2 hO2 hg2 hcs hg hcs2 hc2
  have e1 : (0 : Int) ≤ (i : Int) + 1 := by omega
  have e2 : (i : Int) + 1 ≤ (L.length : Int) + 1 := by omega
  have e3 : ((i : Int) + 1).toNat = i + 1 := by omega
  have e4 : ¬ (cap = i) := by omega
  have e5 : ¬ (cap = i + 1) := by omega
  have e6 : i ≤ L.length := by omega
  have e7 : ¬ ((i : Int) = (L.length : Int)) := by omega
  have e8 : ¬ ((cap : Int) < (L.length : Int) + 1) := by omega
  have e9 : (i : Int) ≤ (L.length : Int) + 1 := by omega
  have hw1 : IntKind.i64.wrap ((i : Int) + 1) = (i : Int) + 1 := IntWalk.i64_in _ (by omega)
  have hov := HOV.out
  go_enter Try.func43, Try.ntmps43
  go_wp2_with (simp only [hov])
  go_region_law (refine step_copy_runL rfl _ _ 22 22 rfl (.slice (some ⟨g, (i + 1) * 5, none⟩) (L.length + 1 - (i + 1)) (cap - (i + 1))) (.slice (some ⟨g, i * 5, none⟩) (L.length + 1 - i) (cap - i)) (by simp [Act.eval, Act.put]) (by simp [Act.eval, Act.put]) (HC1.out _ _ _) ?_)
  have hcp2 := HC2.out
  go_wp2
  go_ret
  exact ⟨rfl, HO2.out, HG2.out⟩

set_option maxRecDepth 100000 in
set_option maxHeartbeats 4000000 in
/-- one element more, where there is no room -/
theorem insert_grow_mec (g i cap B X : Nat) (L : List (P)) (x : P) (cs : Array Value) (w : World) (hi : i < L.length) (hn : L.length ≤ 1000) (hB : B ≤ w.heap.size) (hc : cap < L.length + 1) (hO : OwnL w B 30 5 mec (.slice (some ⟨g, 0, none⟩) L.length cap) L) (hX : w.heap[X]? = some (.cells cs 30 (0, 0))) (hcs : cs.toList = mec x) :
    Calls Try.prog 43 #[.slice (some ⟨g, 0, none⟩) L.length cap, .int .i64 i, .slice (some ⟨X, 0, none⟩) 1 1] w fun e w' =>
      ∃ a' c', e = .returned (.slice a' (L.length + 1) c') ∧ OwnL w' B 30 5 mec (.slice a' (L.length + 1) c') (L.take i ++ x :: L.drop i) ∧ w.grownBy w' (some g) ∧ (∀ b, (Value.slice a' (L.length + 1) c').ownBlock = some b → (Value.slice (some ⟨g, 0, none⟩) L.length cap).ownBlock = some b ∨ w.heap.size ≤ b) := by
  obtain ⟨cur, _, hg, hc1, hc2, hcs2, _⟩ := hO.row'
  have hcl := hO.cell mec_len
  have hXl : X < w.heap.size := (Array.getElem?_eq_some_iff.1 hX).1
  have hgl : g < w.heap.size := (Array.getElem?_eq_some_iff.1 hg).1
  obtain ⟨i0, hi0, hz0, hz1, hz2⟩ := info_parts info_mec
  have htl : (L.take i).length = i := by rw [List.length_take]; omega
  have hdl : (L.drop i).length = L.length - i := List.length_drop
  have hfl : ((L.drop i).flatMap mec).length = (L.length - i) * 5 := by rw [flat_len mec 5 mec_len, hdl]
  have hold : (Builtin.firstCells i0.size i (.slice (some ⟨g, 0, none⟩) i cap)).run Try.prog w.drew = .ok ((L.take i).flatMap mec).toArray w.drew := by
    rw [hz1]
    refine run_firstCells_some w.drew 5 i ⟨g, 0, none⟩ i cap _ (by rw [flat_len mec 5 mec_len, htl]) (fun j u hu => ?_)
    rw [Addr.add_lit]
    have h0 := hcl 0 j u (by
      rw [List.drop_zero, ← List.take_append_drop i L, List.flatMap_append, List.getElem?_append_left (List.getElem?_eq_some_iff.1 hu).1]
      exact hu)
    rw [Nat.zero_mul] at h0
    exact h0
  have hrz : ∀ ty, (Builtin.append_ #[22, 3] ty #[.slice (some ⟨g, 0, none⟩) i cap, .int .i64 ((L.length : Int) + 1 - (i : Int))]).run Try.prog w = .ok (.slice (some ⟨w.heap.size, 0, none⟩) (L.length + 1) (grownCap w (L.length + 1) cap 30))
      (w.drew.alloc (.cells (((L.take i).flatMap mec).toArray ++ Builtin.zeroCells (Value.agg #[.string ⟨#[]⟩, .int .u8 0, .bool false, .int .i64 0, .slice none 0 0]).cells (L.length + 1 - i) ++ Builtin.zeroCells (Value.agg #[.string ⟨#[]⟩, .int .u8 0, .bool false, .int .i64 0, .slice none 0 0]).cells (grownCap w (L.length + 1) cap 30 - (L.length + 1))) 30)) := fun ty => by
    have h := Lib.run_append_grow_zeros w 22 3 ty 30 i0 (Value.agg #[.string ⟨#[]⟩, .int .u8 0, .bool false, .int .i64 0, .slice none 0 0]) .i64 .i64 Try.underlying22 Try.underlying3 hi0 hz0 (some ⟨g, 0, none⟩) i cap _ hold (L.length + 1 - i) (by omega) (by omega) (by omega) (by omega) (by rw [hz2]; omega) (by rw [hz2, show i + (L.length + 1 - i) = L.length + 1 by omega]; exact growslice_fits hc (by omega))
    rw [show i + (L.length + 1 - i) = L.length + 1 by omega] at h
    rw [show (L.length : Int) + 1 - (i : Int) = ((L.length + 1 - i : Nat) : Int) by omega]
    exact h
  have hG1 := grownCap_ge w (L.length + 1) cap 30
  have hG2 := grownCap_le_maxLen w (L.length + 1) cap 30 (by unfold maxLen; omega)
  generalize grownCap w (L.length + 1) cap 30 = G at hrz hG1 hG2
  have hzf := zeroCells_flat mec 5 mec_len (by decide) (Value.agg #[.string ⟨#[]⟩, .int .u8 0, .bool false, .int .i64 0, .slice none 0 0]).cells (p0 : P) rfl
  have hsz : (L.take i ++ List.replicate (L.length + 1 - i) (p0 : P)).length = L.length + 1 := by rw [List.length_append, htl, List.length_replicate]; omega
  obtain ⟨ROW, hROW⟩ : ∃ ROW, ROW = ((L.take i).flatMap mec).toArray ++ Builtin.zeroCells (Value.agg #[.string ⟨#[]⟩, .int .u8 0, .bool false, .int .i64 0, .slice none 0 0]).cells (L.length + 1 - i) ++ Builtin.zeroCells (Value.agg #[.string ⟨#[]⟩, .int .u8 0, .bool false, .int .i64 0, .slice none 0 0]).cells (G - (L.length + 1)) := ⟨_, rfl⟩
  rw [← hROW] at hrz
  have hRl : ROW.toList = (L.take i ++ List.replicate (L.length + 1 - i) (p0 : P)).flatMap mec ++ (List.replicate (G - (L.length + 1)) (p0 : P)).flatMap mec := by
    rw [hROW, Array.toList_append, Array.toList_append, hzf, hzf, List.flatMap_append]
  have hO1 : OwnL (w.drew.alloc (.cells ROW 30)) B 30 5 mec (.slice (some ⟨w.heap.size, 0, none⟩) (L.length + 1) G) (L.take i ++ List.replicate (L.length + 1 - i) (p0 : P)) := by
    refine ⟨by rw [hsz, flat_len mec 5 mec_len, hsz], .inr ⟨w.heap.size, G, ROW, by rw [hsz], hB, blk_new w.drew _, by rw [hsz]; exact hG1, hG2, ?_, ?_⟩⟩
    · rw [← Array.length_toList, hRl, List.length_append, flat_len mec 5 mec_len, flat_len mec 5 mec_len, hsz, List.length_replicate, ← Nat.add_mul]
      congr 1
      omega
    · rw [hRl]
      exact List.take_left' (by rw [flat_len mec 5 mec_len])
  have hgw : w.grownBy (w.drew.alloc (.cells ROW 30)) (some g) := by
    have h := World.grownBy_alloc w.drew (.cells ROW 30) (some g)
    exact ⟨h.os, h.tape, h.output, h.size, h.block⟩
  have hX1 : (w.drew.alloc (.cells ROW 30)).heap[X]? = some (.cells cs 30 (0, 0)) := blk_past w.drew _ hX
  have hg1 : (w.drew.alloc (.cells ROW 30)).heap[g]? = some (.cells cur 30 (0, 0)) := blk_past w.drew _ hg
  generalize w.drew.alloc (.cells ROW 30) = W1 at hrz hO1 hgw hX1 hg1
  obtain ⟨N, hN⟩ : ∃ N, N = w.heap.size := ⟨_, rfl⟩
  have hXN : X ≠ N := by omega
  have hgN : g ≠ N := by omega
  have hO1s : OwnL W1 B 30 5 mec (.slice (some ⟨N, 0, none⟩) (L.take i ++ List.replicate (L.length + 1 - i) (p0 : P)).length G) (L.take i ++ List.replicate (L.length + 1 - i) (p0 : P)) := by rw [hN, hsz]; exact hO1
  have hth1 := hO1s.there
  have hkc : ∀ t, t ≤ G → t * 5 ≤ G * 5 := fun t ht => Nat.mul_le_mul_right _ ht
  have hfx : (mec x).length = 1 * 5 := by rw [mec_len, Nat.one_mul]
  have hcp2 : ∀ ty dc, (Builtin.copy_ #[22, 22] ty #[.slice (some ⟨w.heap.size, i * 5, none⟩) (L.length + 1 - i) dc, .slice (some ⟨X, 0, none⟩) 1 1]).run Try.prog W1 = .ok (goInt (1 : Nat)) (W1.setCells N (i * 5) (mec x)) := fun ty dc => by
    rw [← hN]
    exact run_copy_k W1 22 22 ty 30 5 N _ _ dc ⟨X, 0, none⟩ 1 1 1 _ Try.underlying22 size_mec (by simp only [Nat.min_def]; split <;> omega) hfx (fun j u hu => World.news_of_block hX1 j u (by rw [hcs]; exact hu))
      (fun j hj => by rw [hfx] at hj; have := hkc (i + 1) (by omega); rw [Nat.add_mul] at this; exact (hth1 _ (by omega)).1)
      (fun j hj => by rw [hfx] at hj; have := hkc (i + 1) (by omega); rw [Nat.add_mul] at this; exact (hth1 _ (by omega)).2) (mec_one x)
  have htk : (L.take i ++ List.replicate (L.length + 1 - i) (p0 : P)).take i = L.take i := List.take_left' htl
  have hl2 : (L.take i ++ x :: List.replicate (L.length - i) (p0 : P)).length = L.length + 1 := by rw [List.length_append, htl, List.length_cons, List.length_replicate]; omega
  have hO2 : OwnL (W1.setCells N (i * 5) (mec x)) B 30 5 mec (.slice (some ⟨N, 0, none⟩) (L.length + 1) G) (L.take i ++ x :: List.replicate (L.length - i) (p0 : P)) := by
    refine hO1s.write mec_len i [x] (by omega) (by simp only [List.length_singleton]; omega) (L.length + 1) _ ?_ hl2 _ rfl _ (by simp)
    rw [htk, List.length_singleton, show (L.take i ++ List.replicate (L.length + 1 - i) (p0 : P)).drop (i + 1) = List.replicate (L.length - i) (p0 : P) by rw [List.drop_append, List.drop_of_length_le (by omega), htl, List.nil_append, List.drop_replicate]; congr 1; omega, List.append_assoc, List.singleton_append]
    exact (List.take_of_length_le (by omega)).symm
  have hg2 : w.grownBy (W1.setCells N (i * 5) (mec x)) (some g) := by
    have h2 := grown_setCells W1 N (i * 5) (mec x)
    exact ⟨h2.os.trans hgw.os, h2.tape.trans hgw.tape, h2.output.trans hgw.output, Nat.le_trans hgw.size h2.size, fun k hk hne => (h2.block k (Nat.lt_of_lt_of_le hk hgw.size) (fun e => by have := Option.some.inj e; omega)).trans (hgw.block k hk hne)⟩
  have hgg2 : (W1.setCells N (i * 5) (mec x)).heap[g]? = some (.cells cur 30 (0, 0)) := by
    rw [(grown_setCells W1 N (i * 5) (mec x)).block g (Array.getElem?_eq_some_iff.1 hg1).1 (fun e => hgN (Option.some.inj e)), hg1]
  generalize W1.setCells N _ _ = W2 at hcp2 hO2 hg2 hgg2
  rw [← hl2] at hO2
  have hth2 := hO2.there
  have hcg : ∀ j u, ((L.drop i).flatMap mec)[j]? = some u → W2.drew.cell? ⟨g, i * 5 + j, none⟩ = some u := fun j u hu => by
    have h1 := hcl i j u hu
    have h2 : W2.drew.cell? ⟨g, i * 5 + j, none⟩ = w.cell? ⟨g, i * 5 + j, none⟩ := World.cell?_of_block (by show W2.heap[g]? = w.heap[g]?; rw [hgg2, hg])
    rw [h2, h1]
  have hcp3 : ∀ ty dc sc, (Builtin.copy_ #[22, 22] ty #[.slice (some ⟨w.heap.size, (i + 1) * 5, none⟩) (L.length + 1 - (i + 1)) dc, .slice (some ⟨g, i * 5, none⟩) (L.length - i) sc]).run Try.prog W2.drew = .ok (goInt (L.length - i : Nat)) (W2.drew.setCells N ((i + 1) * 5) ((L.drop i).flatMap mec)) := fun ty dc sc => by
    rw [← hN]
    exact run_copy_k W2.drew 22 22 ty 30 5 N _ _ dc ⟨g, i * 5, none⟩ _ sc (L.length - i) _ Try.underlying22 size_mec (by simp only [Nat.min_def]; split <;> omega) hfl (fun j u hu => by rw [Addr.add_lit]; exact hcg j u hu)
      (fun j hj => by rw [hfl] at hj; have := hkc (i + 1 + (L.length - i)) (by omega); rw [Nat.add_mul] at this; exact (hth2 _ (by omega)).1)
      (fun j hj => by rw [hfl] at hj; have := hkc (i + 1 + (L.length - i)) (by omega); rw [Nat.add_mul] at this; exact (hth2 _ (by omega)).2) (flat_one_mec _)
  have hl3 : (L.take i ++ x :: L.drop i).length = L.length + 1 := by rw [List.length_append, htl, List.length_cons, hdl]; omega
  have hO2d : OwnL W2.drew B 30 5 mec (.slice (some ⟨N, 0, none⟩) (L.take i ++ x :: List.replicate (L.length - i) (p0 : P)).length G) (L.take i ++ x :: List.replicate (L.length - i) (p0 : P)) := hO2
  have hO3 : OwnL (W2.drew.setCells N ((i + 1) * 5) ((L.drop i).flatMap mec)) B 30 5 mec (.slice (some ⟨N, 0, none⟩) (L.length + 1) G) (L.take i ++ x :: L.drop i) := by
    refine hO2d.write mec_len (i + 1) (L.drop i) (by omega) (by rw [hdl]; omega) (L.length + 1) _ ?_ hl3 _ rfl _ rfl
    rw [show (L.take i ++ x :: List.replicate (L.length - i) (p0 : P)).take (i + 1) = L.take i ++ [x] by rw [List.take_append, List.take_of_length_le (by omega), htl, Nat.add_sub_cancel_left]; rfl]
    have hh : L.take i ++ x :: L.drop i = L.take i ++ [x] ++ L.drop i := by simp
    exact hh.trans (List.take_left' (by rw [← hh]; exact hl3)).symm
  have hg3 : w.grownBy (W2.drew.setCells N ((i + 1) * 5) ((L.drop i).flatMap mec)) (some g) := by
    have h2 := grown_setCells W2.drew N ((i + 1) * 5) ((L.drop i).flatMap mec)
    exact ⟨h2.os.trans hg2.os, h2.tape.trans hg2.tape, h2.output.trans hg2.output, Nat.le_trans hg2.size h2.size, fun k hk hne => (h2.block k (Nat.lt_of_lt_of_le hk hg2.size) (fun e => by have := Option.some.inj e; omega)).trans (hg2.block k hk hne)⟩
  generalize W2.drew.setCells N _ _ = W3 at hcp3 hO3 hg3
  have HC2 := Lib.hid hcp2
  have HC3 := Lib.hid hcp3
  have HO3 := Lib.hid hO3
  have HG3 := Lib.hid hg3
  have HN := Lib.hid hN
  clear hO hcl hdl hfl hkc hcp2 hcp3 hO1 hO1s hO2 hO2d hO3 hgw hg2 hg3 hX hX1 hg1 hth1 hth2 hfx hcs hg hcs2 hgg2 hcg htk hl2 hl3 hsz hROW hRl hzf hN hz0 hz1 hz2 hi0 htl
  have HRZ := Lib.hid hrz
  clear hrz hold
  have hcc : cap ≤ 9223372036854775807 := by unfold maxLen at hc2; omega
  have hGG : G ≤ 9223372036854775807 := by unfold maxLen at hG2; omega
  have e1 : (0 : Int) ≤ (i : Int) + 1 := by omega
  have e2 : (i : Int) + 1 ≤ (L.length : Int) + 1 := by omega
  have e3 : ((i : Int) + 1).toNat = i + 1 := by omega
  have e4 : ¬ (cap = i) := by omega
  have e5 : ¬ (G = i + 1) := by omega
  have e55 : ¬ (G = i) := by omega
  have e6 : i ≤ L.length := by omega
  have e7 : ¬ ((i : Int) = (L.length : Int)) := by omega
  have e8 : (cap : Int) < (L.length : Int) + 1 := by omega
  have e9 : (i : Int) ≤ (L.length : Int) + 1 := by omega
  have hw1 : IntKind.i64.wrap ((i : Int) + 1) = (i : Int) + 1 := IntWalk.i64_in _ (by omega)
  go_enter Try.func43, Try.ntmps43
  have hcp2 := HC2.out
  go_wp2_with (at_builtin; refine Lib.wpList_append_run _ rfl _ _ _ _ rfl _ _ rfl rfl _ _ (HRZ.out _) ?_)
  go_region_law (refine step_copy_runL rfl _ _ 22 22 rfl (.slice (some ⟨w.heap.size, (i + 1) * 5, none⟩) (L.length + 1 - (i + 1)) (G - (i + 1))) (.slice (some ⟨g, i * 5, none⟩) (L.length - i) (cap - i)) (by simp [Act.eval, Act.put]) (by simp [Act.eval, Act.put]) (HC3.out _ _ _) ?_)
  go_wp2
  go_ret
  exact ⟨_, _, by rw [← HN.out]; rfl, HO3.out, HG3.out, fun b hb => .inr (by cases hb; exact Nat.le_of_eq HN.out.symm)⟩

/-- one element more -/
theorem insert_mec (a : Option Addr) (i cap B X : Nat) (L : List (P)) (x : P) (cs : Array Value) (w : World) (hi : i ≤ L.length) (hn : L.length ≤ 1000) (hB : B ≤ w.heap.size) (hO : OwnL w B 30 5 mec (.slice a L.length cap) L) (hX : w.heap[X]? = some (.cells cs 30 (0, 0))) (hcs : cs.toList = mec x)
    (hne : ∀ g, (Value.slice a L.length cap).ownBlock = some g → X ≠ g) :
    Calls Try.prog 43 #[.slice a L.length cap, .int .i64 i, .slice (some ⟨X, 0, none⟩) 1 1] w fun e w' =>
      ∃ a' c', e = .returned (.slice a' (L.length + 1) c') ∧ OwnL w' B 30 5 mec (.slice a' (L.length + 1) c') (L.take i ++ x :: L.drop i) ∧ w.grownBy w' (Value.slice a L.length cap).ownBlock ∧ (∀ b, (Value.slice a' (L.length + 1) c').ownBlock = some b → (Value.slice a L.length cap).ownBlock = some b ∨ w.heap.size ≤ b) := by
  rcases Nat.lt_or_ge i L.length with h | h
  · obtain ⟨g, cur, rfl, _⟩ := hO.row (by omega)
    by_cases hc : L.length + 1 ≤ cap
    · refine (insert_room_mec g i cap B X L x cs w h hn hc hO hX hcs (hne g rfl)).mono ?_
      rintro e w' ⟨rfl, h1, h2⟩
      exact ⟨_, _, rfl, h1, h2, fun b hb => .inl hb⟩
    · exact insert_grow_mec g i cap B X L x cs w h hn hB (by omega) hO hX hcs
  · obtain rfl : i = L.length := by omega
    exact insert_end_mec a cap B X L x cs w hn hB hO hX hcs
end Go.Proofs.Ytoemjpfoddeinaa.Mb
