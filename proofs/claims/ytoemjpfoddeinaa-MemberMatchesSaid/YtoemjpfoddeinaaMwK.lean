/-
  Member: Close of the reference.
-/
import Derived.Test.YtoemjpfoddeinaaMwJ
namespace Go.Proofs.Ytoemjpfoddeinaa.Mb
open Go.RowKit Go.Proofs.Ytoemjpfoddeinaa Go.Proofs.Ytoemjpfoddeinaa.Ls Go.Proofs.Ytoemjpfoddeinaa.Kb
open Go.Proofs.Ytoemjpfoddeinaa.Nm hiding ret_bool ret_int

section
variable {P : Program} (w : World)
/-- a whole slice appended, at a step of a region that draws -/
theorem step_append_LN {α : Type} {ops : Array Oper} {o : Oper} {a : Act} {K : Act → World → Prop} {Q : Exit → Act → World → Prop} {E : Prop} (hgd : o.guard = none) (s x : Operand) (t : TypeId)
    (ho : o.op = .call { callee := .builtin .append, args := #[s, x], argTypes := #[t, t] })
    (T : TypeId) (z : Value) (k bytes : Nat) (ht : P.underlying t = some (.slice T)) (hi : (P.info? T).map (fun i => (i.zero, i.size, i.bytes)) = some (some z, k, bytes)) (hz : z.cells.size = k) (hk0 : 0 < k)
    (B : Nat) (f : α → List Value) (hk : ∀ x, (f x).length = k) (h1 : ∀ x, ∀ u ∈ f x, u.oneCell' = true) (v : Value) (ys xs : List α) (A : Option Addr) (c : Nat) (hs : a.eval s = v) (n : Nat) (hn : xs.length = n) (hx : a.eval x = .slice A n c)
    (hown : OwnL w B T k f v ys) (hA : AtL w k f A xs) (r : Nat) (hr0 : ys.length + n = r) (h63 : r ≤ maxLen) (hbytes : r * bytes ≤ 140737488355328) (hB : B ≤ w.heap.size)
    (h : ∀ a' c' w', OwnL w' B T k f (.slice a' r c') (ys ++ xs) → w.grownBy w' v.ownBlock → K (a.put o.dst (.slice a' r c')) w') :
    if Region.wanted o (yielded ops a.tmps) = true then Oper.wp P o a w K Q else E := by
  subst hn hr0
  obtain ⟨a', c', w', hr, h2, h3⟩ := run_append_LL (P := P) w t o.type T z k bytes ht hi hz hk0 B f hk h1 v ys xs A c hown hA (fun _ => by cases A; exact .inl rfl; exact .inr ⟨_, rfl⟩) h63 hbytes hB
  exact step_append_runL hgd s x t t ho v _ hs hx hr (h _ _ _ h2 h3)
end
theorem grown_far {v wa w9 : World} {u : Value} (hwa : Below v.heap.size v wa) (hg : wa.grownBy w9 u.ownBlock) (hu : ∀ b, u.ownBlock = some b → v.heap.size ≤ b) : Below v.heap.size v w9 :=
  ⟨hg.os.trans hwa.os, hg.tape.trans hwa.tape, hg.output.trans hwa.output, Nat.le_trans hwa.size hg.size, fun k hk => (hg.block k (Nat.lt_of_lt_of_le hk hwa.size) (fun e => by have := hu k e.symm; omega)).trans (hwa.block k hk)⟩
theorem AtL.head {α : Type} {w : World} {k : Nat} {f : α → List Value} {a : Option Addr} {xs : List α} (h : AtL w k f a xs) (n : Nat) : AtL w k f a (xs.take n) := fun i x hx => by
  rw [List.getElem?_take] at hx
  split at hx
  · exact h i x hx
  · cases hx
theorem atL_piece {w : World} {G cap J : Nat} {l : List Ac} {A : Addr} (h : AtL w 4 acc (some ⟨G, 0, none⟩) l) (hJ : J < l.length) (hc : l.length ≤ cap) (hA : (if cap = J + 1 then some (⟨G, 0, none⟩ : Addr) else some ⟨G, (J + 1) * 4, none⟩) = some A) : AtL w 4 acc (some A) (l.drop (J + 1)) := by
  split at hA
  · rename_i e
    rw [List.drop_of_length_le (by omega)]
    exact AtL.nil _ _ _ _
  · injection hA with hA
    subst hA
    have := h.cut (n := J + 1) (by omega)
    rw [Nat.zero_add] at this
    exact this
/-- a member's accounts are written -/
theorem mbox4 {w : World} {B : Nat} {a0 a1 a2 a3 a4 : Value} {t : TypeId} (h : w.heap[B]? = some (.cells #[a0, a1, a2, a3, a4] t (0, 0))) (v : Value) : (w.setCell ⟨B, 4, none⟩ v).heap[B]? = some (.cells #[a0, a1, a2, a3, v] t (0, 0)) := by
  simp [World.setCell, Array.getElem?_modify, h]

set_option maxRecDepth 100000 in
set_option maxHeartbeats 8000000 in
theorem w_close (a : Option Addr) (c n : Nat) (ms : List Me) (t : ByteArray) (t2 : ByteArray) (ms' : List Me) (n' : Nat) (er : Int) (w : World) (hr : chgF ms t (fClose t2) = (ms', er)) (hn : ms.length = n) (hn' : ms'.length = n') (h0 : n ≤ 80) (hZ : OkMs ms) (hS : St w a ms) :
    Calls Try.prog 66 #[.agg #[.slice a n c], .string t, .string t2] w (SW ms' n' er w) := by
  have hb0 := blk_twoB w (.cells #[.slice a n c] 24) (.cells #[.slice none 0 0] 24)
  have HS0 := Lib.hid hS
  have HX := Lib.hid (blk_two w (.cells #[.slice a n c] 24) (.cells #[.slice none 0 0] 24))
  have HS := Lib.hid hS
  have HN := Lib.hid hn
  have HN' := Lib.hid hn'
  have HZ := Lib.hid hZ
  have HR := Lib.hid hr
  have HLN := Lib.hid (show ∀ m ∈ ms, m.ac.length ≤ 1000 from fun m hm => (hZ m hm).len)
  obtain ⟨m0, hm0⟩ : ∃ m, m = (fsF ms t).1 := ⟨_, rfl⟩
  obtain ⟨e0, he0⟩ : ∃ e, e = (fsF ms t).2 := ⟨_, rfl⟩
  have HFS := Lib.hid (show fsF ms t = (m0, e0) by rw [hm0, he0])
  clear hS hn hn' hZ hr hm0 he0
  go_enter Try.func66, Try.ntmps66
  go_wp2_with fail
  have B0 := Lib.hid hb0
  have S_0 := Lib.hid HX.out.1
  have R_0 := Lib.hid HX.out.2
  have hs_0 := Lib.hid (HS.out.below hb0)
  clear hb0 HX HS
  generalize (w.alloc _).alloc _ = w0 at B0 S_0 R_0 hs_0 ⊢
  refine (s_first a c n ms t m0 e0 w0 HFS.out HN.out (by omega) HZ.out hs_0.out).mono ?_
  rintro e v1 ⟨am, cm, rfl, hO, hb⟩
  have hb0 := hb
  have HWO := Lib.hid (show w.heap.size + 1 + 1 ≤ w0.heap.size from blk_lt R_0.out)
  have hRlt := blk_lt (blk_keep R_0.out hb)
  have hal : Below v1.heap.size v1 (v1.alloc (.cells #[.string m0.nm, .int .u8 m0.ro, .bool m0.su, .int .i64 m0.lim, .slice am m0.ac.length cm] 30)) := (Below.refl _ _).alloc (Nat.le_refl _) _
  have hnw := blk_new v1 (.cells #[.string m0.nm, .int .u8 m0.ro, .bool m0.su, .int .i64 m0.lim, .slice am m0.ac.length cm] 30)
  obtain ⟨XM, hX⟩ : ∃ X, X = v1.heap.size := ⟨_, rfl⟩
  have B1 := Lib.hid (bt (bt B0.out hb (Nat.le_refl _)) hal (Nat.le_refl _))
  have S_1 := Lib.hid (blk_keep (blk_keep S_0.out hb) hal)
  have R_1 := Lib.hid (blk_keep (blk_keep R_0.out hb) hal)
  have hs_1 := Lib.hid ((hs_0.out.below hb).below hal)
  have ho_1 := Lib.hid ((hO).below hal)
  rw [← hX] at hnw
  have M_1 := Lib.hid hnw
  clear hb hb0 B0 S_0 R_0 hs_0 hO
  go_wp2_with fail
  have HXM := Lib.hid (show w.heap.size + 1 < XM by rw [hX]; exact hRlt)
  clear hRlt
  rw [← hX]
  clear hX
  clear hal hnw
  generalize v1.alloc _ = w1 at B1 S_1 R_1 hs_1 ho_1 M_1 ⊢
  have HFF := Lib.hid (fs_facts HFS.out)
  obtain ⟨ai, hai⟩ : ∃ i, i = atF m0.ac t2 := ⟨_, rfl⟩
  have Hai := Lib.hid hai.symm
  clear hai
  refine (s_rat am cm m0 t2 ai w1 Hai.out HFF.out.1 HFF.out.2.1 (ho_1.out.sl acc_len).1).mono ?_
  rintro e v2 ⟨rfl, hb⟩
  have hb0 := hb
  have B2 := Lib.hid (bt B1.out hb (Nat.le_refl _))
  have S_2 := Lib.hid (blk_keep S_1.out hb)
  have R_2 := Lib.hid (blk_keep R_1.out hb)
  have hs_2 := Lib.hid (hs_1.out.below hb)
  have ho_2 := Lib.hid (ho_1.out.below hb)
  have M_2 := Lib.hid (blk_keep M_1.out hb)
  clear hb hb0 B1 S_1 R_1 hs_1 ho_1 M_1 
  go_upto_region 3 with fail
  by_cases h1 : e0 = 0
  case neg =>
    have b1 : (e0 == 0) = false := by simpa using h1
    have b2 : (e0 != 0) = true := by simpa using h1
    have HE := Lib.hid (show ms' = [] ∧ n' = 0 ∧ er = e0 by
      have h := HR.out
      rw [chg_bad HFS.out h1] at h
      injection h with h1 h2
      exact ⟨h1.symm, by rw [← HN'.out, ← h1]; rfl, h2.symm⟩)
    clear h1
    have y0 := cell_of R_2.out 0 _ rfl
    have yf := frozen_of R_2.out 0
    go_wp2_with fail
    have h4 := set1 R_2.out (.slice none 0 0)
    have r0 := cell_of h4 0 _ rfl
    exact bodyPost_ret (v := .tuple #[.agg #[.slice none 0 0], .int .i64 e0]) (by simp [results, Try.results66, go_sem, r0]) rfl ⟨none, 0, by rw [HE.out.2.1, HE.out.2.2], by rw [HE.out.1]; exact st_nil _, B2.out.setCell (p := ⟨w.heap.size + 1, 0, none⟩) (Nat.le_succ _) _⟩
  subst h1
  by_cases hh : has (nas m0.ac) t2 = true
  case neg =>
    obtain rfl : ai = -1 := Hai.out.symm.trans (at_none hh)
    have HE := Lib.hid (show ms' = [] ∧ n' = 0 ∧ er = 6 by
      have h := HR.out
      rw [chg_er (f := fClose t2) (e := 6) HFS.out (by unfold fClose; rw [if_neg hh]) (by decide)] at h
      injection h with h1 h2
      exact ⟨h1.symm, by rw [← HN'.out, ← h1]; rfl, h2.symm⟩)
    clear hh
    have y0 := cell_of R_2.out 0 _ rfl
    have yf := frozen_of R_2.out 0
    go_wp2_with fail
    have h4 := set1 R_2.out (.slice none 0 0)
    have r0 := cell_of h4 0 _ rfl
    exact bodyPost_ret (v := .tuple #[.agg #[.slice none 0 0], .int .i64 6]) (by simp [results, Try.results66, go_sem, r0]) rfl ⟨none, 0, by rw [HE.out.2.1, HE.out.2.2], by rw [HE.out.1]; exact st_nil _, B2.out.setCell (p := ⟨w.heap.size + 1, 0, none⟩) (Nat.le_succ _) _⟩
  obtain ⟨J, hJ⟩ : ∃ J, J = pos (nas m0.ac) t2 := ⟨_, rfl⟩
  obtain rfl : ai = (J : Int) := by rw [hJ]; exact Hai.out.symm.trans (at_has HFS.out hh)
  have hvm := (fs_ok HFS.out).2.choose_spec.choose_spec.2.2.2.2
  have hJl : J < m0.ac.length := by rw [hJ]; exact has_pos hvm hh
  have j0 : ¬ (J : Int) < 0 := by omega
  have j1 : (0 : Int) ≤ J := by omega
  have j2 : (J : Int) < m0.ac.length := by omega
  obtain ⟨us, hus⟩ : ∃ u, u = (ga m0.ac J).us := ⟨_, rfl⟩
  obtain ⟨G, cur, rfl, -, hBG, hcur, hcap, hcm, -⟩ := ho_2.out.row (by omega)
  have hat := (ho_2.out.sl acc_len).1
  obtain ⟨-, -, -, p3⟩ := at_a' hat J hJl
  rw [← hus] at p3
  simp only [Nat.zero_add] at p3
  have hGl := blk_lt hcur
  clear hat hcur
  have l4 := cell_of M_2.out 4 _ rfl
  have ll := blk_lt M_2.out
  by_cases hu : us = 0
  case neg =>
    have HE := Lib.hid (show ms' = [] ∧ n' = 0 ∧ er = 20 by
      have h := HR.out
      rw [chg_er (f := fClose t2) (e := 20) HFS.out (by unfold fClose; rw [if_pos hh, ← hJ, ← hus, if_neg hu]) (by decide)] at h
      injection h with h1 h2
      exact ⟨h1.symm, by rw [← HN'.out, ← h1]; rfl, h2.symm⟩)
    have hu' : (us != 0) = true := by simpa using hu
    clear hu hh hJ hus hvm
    have y0 := cell_of R_2.out 0 _ rfl
    have yf := frozen_of R_2.out 0
    go_wp2_with fail
    have h4 := set1 R_2.out (.slice none 0 0)
    have r0 := cell_of h4 0 _ rfl
    exact bodyPost_ret (v := .tuple #[.agg #[.slice none 0 0], .int .i64 20]) (by simp [results, Try.results66, go_sem, r0]) rfl ⟨none, 0, by rw [HE.out.2.1, HE.out.2.2], by rw [HE.out.1]; exact st_nil _, B2.out.setCell (p := ⟨w.heap.size + 1, 0, none⟩) (Nat.le_succ _) _⟩
  obtain ⟨L, hL⟩ : ∃ L, L = m0.ac.take J ++ m0.ac.drop (J + 1) := ⟨_, rfl⟩
  have hf : fClose t2 m0 = (({ m0 with ac := L } : Me), 0) := by unfold fClose; rw [if_pos hh, ← hJ, ← hus, if_pos hu, hL]
  have HED := Lib.hid (show chgF ms t (fClose t2) = edF ms ({ m0 with ac := L } : Me) by rw [chg_ed HFS.out (by rw [hf]) (by rw [hf]), hf])
  have HOK := Lib.hid (show OkM ({ m0 with ac := L } : Me) by have := ok_close t2 m0 (val_ok hvm) hvm (by rw [hf]); rw [hf] at this; exact this)
  have HLL := Lib.hid hL.symm
  have HLN2 := Lib.hid (show L.length = J + (m0.ac.length - (J + 1)) by rw [hL, List.length_append, List.length_take, List.length_drop]; omega)
  obtain ⟨NL, hNL⟩ : ∃ N, N = L.length := ⟨_, rfl⟩
  have HNE := Lib.hid hNL.symm
  have HNL := Lib.hid (show (m0.ac.take J).length + (m0.ac.length - (J + 1)) = NL by rw [hNL, hL, List.length_append, List.length_drop])
  have hNb : NL ≤ 1000 := by rw [hNL]; have := HLN2.out; have := HFF.out.1; omega
  clear hf hL hJ hus hh hvm hNL
  subst hu
  go_upto_region 9 with fail
  clear p3
  obtain ⟨A, hA⟩ : ∃ A : Addr, (if cm = J + 1 then some (⟨G, 0, none⟩ : Addr) else some ⟨G, (J + 1) * 4, none⟩) = some A := by split; exact ⟨_, rfl⟩; exact ⟨_, rfl⟩
  have hln := HFF.out.1
  have hcm' := hcm
  unfold maxLen at hcm'
  have HT1 := Lib.hid (fun wx (h : Below v2.heap.size v2 wx) => AtL.head (((ho_2.out.below h).sl acc_len).1) J)
  have HT2 := Lib.hid (fun wx (h : Below v2.heap.size v2 wx) => atL_piece ((ho_2.out.below h).sl acc_len).1 hJl hcap hA)
  have HMX := Lib.hid (fun wx (h : Below v2.heap.size v2 wx) => blk_keep M_2.out h)
  have e1 : (0 : Int) ≤ (J : Int) + 1 := by omega
  have e2 : (J : Int) + 1 ≤ (m0.ac.length : Int) := by omega
  have e3 : ((J : Int) + 1).toNat = J + 1 := by omega
  have e4 : ¬ (cm = J) := by omega
  have e5 : J ≤ cm := by omega
  have e6 : J + 1 ≤ cm := by omega
  have e7 : (J : Int) ≤ (m0.ac.length : Int) := by omega
  have hw1 : IntKind.i64.wrap ((J : Int) + 1) = (J : Int) + 1 := IntWalk.i64_in _ (by omega)
  have hlt1 : (m0.ac.take J).length = J := by rw [List.length_take]; omega
  have hlt2 : (m0.ac.drop (J + 1)).length = m0.ac.length - (J + 1) := by rw [List.length_drop]
  have HL1 := Lib.hid hlt1
  have HL2 := Lib.hid hlt2
  clear hlt1 hlt2
  go_region_law (first | (refine step_append_LN _ (P := Try.prog) (α := Ac) rfl _ _ _ rfl 32 (Value.agg #[.string ⟨#[]⟩, .bool false, .int .i64 0, .int .i64 0]) 4 40 Try.underlying28 info_acc rfl (by decide) v2.heap.size acc acc_len acc_one (.slice (some ⟨v2.heap.size, 0, none⟩) 0 0) [] (m0.ac.take J) (some ⟨G, 0, none⟩) cm (by rfl) J HL1.out (by rfl) (OwnL.empty (by first | exact blk_new _ _ | exact blk_new v2 _) (Nat.le_refl _)) (HT1.out _ (by first | exact (Below.refl _ _).alloc (Nat.le_refl _) _ | exact (Below.refl _ _).drew.alloc (Nat.le_refl _) _ | exact ((Below.refl _ _).alloc (Nat.le_refl _) _).drew)) J (Nat.zero_add _) (by unfold maxLen; omega) (by omega) (by simp) ?_; intro a8 c8 w8 ho8 hg8; have k8 : Below v2.heap.size v2 w8 := grown_far (by first | exact (Below.refl _ _).alloc (Nat.le_refl _) _ | exact (Below.refl _ _).drew.alloc (Nat.le_refl _) _ | exact ((Below.refl _ _).alloc (Nat.le_refl _) _).drew) hg8 (fun b hb => by cases hb; exact Nat.le_refl _); have x4 := cell_of (HMX.out w8 k8) 4 _ rfl) | (refine step_append_LN _ (P := Try.prog) (α := Ac) rfl _ _ _ rfl 32 (Value.agg #[.string ⟨#[]⟩, .bool false, .int .i64 0, .int .i64 0]) 4 40 Try.underlying28 info_acc rfl (by decide) v2.heap.size acc acc_len acc_one (.slice a8 J c8) (m0.ac.take J) (m0.ac.drop (J + 1)) (some A) (cm - (J + 1)) (by rfl) (m0.ac.length - (J + 1)) HL2.out (by rfl) ho8 (HT2.out _ k8) NL HNL.out (by unfold maxLen; omega) (by omega) k8.size ?_; intro a9 c9 w9 ho9 hg9; have k9 : Below v2.heap.size v2 w9 := grown_far k8 hg9 (fun b hb => (ho8.lt b hb).1); have y4 := cell_of (HMX.out w9 k9) 4 _ rfl; have yf := frozen_of (HMX.out w9 k9) 4))
  all_goals
    have HO9 := Lib.hid (show OwnL w9 v2.heap.size 32 4 acc (.slice a9 NL c9) L by rw [← HLL.out]; exact ho9)
    clear ho9 ho8 hg8 hg9 x4 k8 HT1 HT2 HMX
    have B3 := Lib.hid (bt B2.out k9 (Nat.le_refl _))
    have S_3 := Lib.hid (blk_keep S_2.out k9)
    have R_3 := Lib.hid (blk_keep R_2.out k9)
    have hs_3 := Lib.hid (hs_2.out.below k9)
    have ho_3 := Lib.hid (ho_2.out.below k9)
    have M_3 := Lib.hid (blk_keep M_2.out k9)
    have hWX := HXM.out
    have hXG : ∀ b, (Value.slice a9 NL c9).ownBlock = some b → b ≠ XM := fun b hb e => by
      have h1 := (HO9.out.lt b hb).1
      omega
    have M9 := Lib.hid (mbox4 M_3.out (.slice a9 NL c9))
    have S9 := Lib.hid (set_other (i := 4) S_3.out (show XM ≠ w.heap.size by omega) (.slice a9 NL c9))
    have R9 := Lib.hid (set_other (i := 4) R_3.out (show XM ≠ w.heap.size + 1 by omega) (.slice a9 NL c9))
    have B9 := Lib.hid (B3.out.setCell (p := ⟨XM, 4, none⟩) (show w.heap.size ≤ XM by omega) (.slice a9 NL c9))
    have ho9 := Lib.hid (HO9.out.far (p := ⟨XM, 4, none⟩) (fun h => hXG _ h rfl) (.slice a9 NL c9))
    have hs9 := Lib.hid (HS0.out.below B9.out)
    clear hXG
    clear y4 yf l4 ll
    generalize World.setCell _ ⟨XM, 4, none⟩ _ = w10 at M9 S9 R9 B9 ho9 hs9 ⊢
    have s9 := cell_of S9.out 0 _ rfl
    have m90 := cell_of M9.out 0 _ rfl
    have m91 := cell_of M9.out 1 _ rfl
    have m92 := cell_of M9.out 2 _ rfl
    have m93 := cell_of M9.out 3 _ rfl
    have m94 := cell_of M9.out 4 _ rfl
    go_wp2_with fail
    clear s9 m90 m91 m92 m93 m94
    have HEN := Lib.hid (s_endedN a a9 c c9 n n' NL ms ms' ({ m0 with ac := L } : Me) er w10 (HED.out.symm.trans HR.out) HN.out HN'.out (by omega) HLN.out HOK.out hs9.out (ho9.out.lower' (Nat.zero_le _)) HNE.out)
    refine HEN.out.mono ?_
    rintro e v9 ⟨a9, c9, rfl, hS9, hb⟩
    have R9 := blk_keep R9.out hb
    have B9 := bt B9.out hb (Nat.le_refl _)
    have y0 := cell_of R9 0 _ rfl
    have yf := frozen_of R9 0
    have HR9 := Lib.hid R9
    have HB9 := Lib.hid B9
    have HS9 := Lib.hid hS9
    clear R9 B9 hS9 hb HEN
    go_wp2_with fail
    have h5 := set1 HR9.out (.slice a9 n' c9)
    have r0 := cell_of h5 0 _ rfl
    exact bodyPost_ret (v := .tuple #[.agg #[.slice a9 n' c9], .int .i64 er]) (by simp [results, Try.results66, go_sem, r0]) rfl ⟨a9, c9, rfl, HS9.out.box HR9.out (fun s e => by cases e), HB9.out.setCell (p := ⟨w.heap.size + 1, 0, none⟩) (Nat.le_succ _) _⟩
end Go.Proofs.Ytoemjpfoddeinaa.Mb
