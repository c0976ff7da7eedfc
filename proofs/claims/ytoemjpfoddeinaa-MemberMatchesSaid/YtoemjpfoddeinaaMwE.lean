/-
  Member: with, first and ended of the reference by their lists.
-/
import Derived.Test.YtoemjpfoddeinaaMwD
import Derived.Test.YtoemjpfoddeinaaMbU
namespace Go.Proofs.Ytoemjpfoddeinaa.Mb
open Go.RowKit Go.Proofs.Ytoemjpfoddeinaa Go.Proofs.Ytoemjpfoddeinaa.Ls Go.Proofs.Ytoemjpfoddeinaa.Kb
open Go.Proofs.Ytoemjpfoddeinaa.Nm hiding ret_bool ret_int

/-! what with makes, plainly -/
def wS (m : Me) (r : List Me × Bool) (x : Me) : List Me × Bool :=
  let r2 := if !r.2 && !lt x.nm m.nm then (r.1 ++ [m], true) else r
  (if x.nm = m.nm then r2.1 else r2.1 ++ [x], r2.2)
theorem wF_fold (ms : List Me) (m : Me) (k : Nat) (hk : k ≤ ms.length) : wF ms m k = (ms.take k).foldl (wS m) ([], false) := by
  induction k with
  | zero => simp [wF]
  | succ k ih =>
    rw [take_succ_m ms k (by omega), List.foldl_append, ← ih (by omega)]
    rfl
theorem fold_lo {L : List Me} {m : Me} (hL : Lo L m.nm) : ∀ a : List Me, L.foldl (wS m) (a, false) = (a ++ L, false) := by
  induction L with
  | nil => intro a; simp
  | cons x L ih =>
    intro a
    have h1 := hL x List.mem_cons_self
    have h2 := lo_cons hL x List.mem_cons_self
    have h3 : wS m (a, false) x = (a ++ [x], false) := by unfold wS; simp [h1, h2]
    rw [List.foldl_cons, h3, ih (fun y hy => hL y (List.mem_cons_of_mem _ hy))]
    simp
theorem fold_hi {R : List Me} {m : Me} (hR : Hi R m.nm) : ∀ a : List Me, R.foldl (wS m) (a, true) = (a ++ R, true) := by
  induction R with
  | nil => intro a; simp
  | cons x R ih =>
    intro a
    have h2 := hi_cons hR x List.mem_cons_self
    have h3 : wS m (a, true) x = (a ++ [x], true) := by unfold wS; simp [h2]
    rw [List.foldl_cons, h3, ih (fun y hy => hR y (List.mem_cons_of_mem _ hy))]
    simp
theorem with_fold (ms : List Me) (m : Me) : withF ms m = (let r := ms.foldl (wS m) ([], false); if r.2 then r.1 else r.1 ++ [m]) := by
  unfold withF
  rw [wF_fold ms m ms.length (Nat.le_refl _), List.take_length]
theorem with_mid {L R : List Me} {m0 m : Me} (hL : Lo L m.nm) (hR : Hi R m.nm) (h0 : m0.nm = m.nm) : withF (L ++ m0 :: R) m = L ++ m :: R := by
  rw [with_fold, List.foldl_append, fold_lo hL, List.foldl_cons]
  have h3 : wS m ([] ++ L, false) m0 = (L ++ [m], true) := by unfold wS; simp [h0, lt_irrefl]
  rw [h3, fold_hi hR]
  simp
theorem with_ins {L R : List Me} {m : Me} (hL : Lo L m.nm) (hR : Hi R m.nm) : withF (L ++ R) m = L ++ m :: R := by
  rw [with_fold, List.foldl_append, fold_lo hL]
  cases R with
  | nil => simp
  | cons x R =>
    have h1 := lt_asymm (hR x List.mem_cons_self)
    have h2 := hi_cons hR x List.mem_cons_self
    have h3 : wS m ([] ++ L, false) x = (L ++ [m] ++ [x], true) := by unfold wS; simp [h1, h2]
    rw [List.foldl_cons, h3, fold_hi (fun y hy => hR y (List.mem_cons_of_mem _ hy))]
    simp

theorem own_blk' {α : Type} {w : World} {B G X n c : Nat} {f : α → List Value} {xs : List α} {cs : Array Value} (h : OwnL w B 32 4 f (.slice (some ⟨G, 0, none⟩) n c) xs) (h' : w.heap[X]? = some (.cells cs 30 (0, 0))) : G ≠ X := fun e => own_blk h h' (by decide) (by rw [← e]; rfl)
/-! by their lists -/
/-- a state is read on, whatever is written into a box of one value -/
theorem atl_box {α : Type} {w : World} {k RB i : Nat} {a : Option Addr} {f : α → List Value} {xs : List α} {v0 v : Value} {T : TypeId} (hk : ∀ x, ∃ s r, f x = .string s :: r) (h : AtL w k f a xs) (hR : w.heap[RB]? = some (.cells #[v0] T (0, 0))) (hv : ∀ s, v0 ≠ .string s) :
    AtL (w.setCell ⟨RB, i, none⟩ v) k f a xs := by
  intro j x hx
  obtain ⟨b, off, ha, hc⟩ := h j x hx
  obtain ⟨s, r, hs⟩ := hk x
  have h0 := hc 0 (.string s) (by rw [hs]; rfl)
  refine ⟨b, off, ha, fun q u hu => ?_⟩
  have hb : b ≠ RB := fun e => by
    subst e
    have : (#[v0] : Array Value)[off + j * k]? = some (.string s) := by simpa [World.cell?, hR] using h0
    generalize off + j * k = p at this
    match p with
    | 0 => exact hv s (by simpa using this)
    | p + 1 => simp at this
  rw [← hc q u hu]
  exact World.cell?_of_block (by simp [World.setCell, Array.getElem?_modify, Ne.symm hb])
theorem St.box {w : World} {a : Option Addr} {ms : List Me} {RB i : Nat} {v0 v : Value} {T : TypeId} (h : St w a ms) (hR : w.heap[RB]? = some (.cells #[v0] T (0, 0))) (hv : ∀ s, v0 ≠ .string s) : St (w.setCell ⟨RB, i, none⟩ v) a ms := by
  obtain ⟨xs, h1, h2⟩ := h
  exact ⟨xs, h1, atl_box (fun x => ⟨_, _, rfl⟩) h2.ms hR hv, fun x hx => atl_box (fun x => ⟨_, _, rfl⟩) (h2.ac x hx) hR hv⟩
/-- a state that is read and an error are returned -/
def SW (ms : List Me) (n : Nat) (er : Int) (w : World) : Ending → World → Prop := fun e w' => ∃ a' c', e = .returned (.tuple #[.agg #[.slice a' n c'], .int .i64 er]) ∧ St w' a' ms ∧ Below w.heap.size w w'
theorem s_with (a am : Option Addr) (c cm n n' : Nat) (ms ms' : List Me) (m : Me) (w : World) (hr : withF ms m = ms') (hn : ms.length = n) (hn' : ms'.length = n') (h0 : n ≤ 100) (hZ : ∀ m ∈ ms, m.ac.length ≤ 1000) (hS : St w a ms) (hM : OwnL w 0 32 4 acc (.slice am m.ac.length cm) m.ac) :
    Calls Try.prog 88 #[.agg #[.slice a n c], .agg #[.string m.nm, .int .u8 m.ro, .bool m.su, .int .i64 m.lim, .slice am m.ac.length cm]] w fun e w' => ∃ a' c', e = .returned (.agg #[.slice a' n' c']) ∧ St w' a' ms' ∧ Below w.heap.size w w' := by
  obtain ⟨xs, rfl, hA⟩ := hS
  rw [fst_len] at hn
  subst hn
  refine (rwith_any a am c cm xs m w h0 (fun x hx => hZ _ (List.mem_map.2 ⟨x, hx, rfl⟩)) hA hM).mono ?_
  rintro e w' ⟨a', c', ys, rfl, h1, h2, h3⟩
  exact ⟨a', c', by rw [← hn', ← hr, ← h1, fst_len], ⟨ys, h1.trans hr, h2⟩, h3⟩
theorem s_rcheck (a : Option Addr) (c n : Nat) (ms : List Me) (e0 : Int) (w : World) (hr : chk ms = e0) (hn : ms.length = n) (h0 : n ≤ 1000) (hZ : OkMs ms) (hS : St w a ms) :
    Calls Try.prog 34 #[.agg #[.slice a n c]] w fun e w' => e = .returned (.int .i64 e0) ∧ Below w.heap.size w w' := by
  obtain ⟨xs, rfl, hA⟩ := hS
  rw [fst_len] at hn
  subst hn
  subst hr
  exact rcheck_any a c xs w h0 (okms_xs hZ) hA
/-- the errors for a state and a member, and the member -/
def fsF (ms : List Me) (t : ByteArray) : Me × Int := if plE ms t = 0 then (at_ ms t, 0) else (me0, plE ms t)
theorem fd_has {ms : List Me} {t : ByteArray} (h : chk ms = 0) : fdM ms t = if has (nms ms) t then (at_ ms t, true) else (me0, false) := by
  cases hh : has (nms ms) t
  · obtain ⟨L, R, rfl, hL, hR⟩ := split_no h hh
    rw [fd_none hL hR]
    rfl
  · obtain ⟨L, m, R, rfl, hm, hL, hR⟩ := split_has h hh
    rw [fd_mid hL hm]
    unfold at_
    rw [pos_mid hL hm, gm_mid]
    rfl
theorem fs_ok {ms : List Me} {t : ByteArray} {m : Me} (h : fsF ms t = (m, 0)) : chk ms = 0 ∧ ∃ L R, ms = L ++ m :: R ∧ m.nm = t ∧ Lo L t ∧ Hi R t ∧ val m = true := by
  unfold fsF at h
  split at h
  · rename_i g
    have hc : chk ms = 0 ∧ has (nms ms) t = true := by
      unfold plE at g
      split at g
      · rename_i g1
        refine ⟨g1, ?_⟩
        cases k : has (nms ms) t
        · rw [k] at g; cases g
        · rfl
      · cases g
    obtain ⟨L, m0, R, rfl, hm, hL, hR⟩ := split_has hc.1 hc.2
    have : at_ (L ++ m0 :: R) t = m0 := by unfold at_; rw [pos_mid hL hm, gm_mid]
    rw [this] at h
    injection h with h _
    subst h
    exact ⟨hc.1, L, R, rfl, hm, hL, hR, (chk_del hc.1).2.2.2.1⟩
  · rename_i g
    exact absurd (congrArg Prod.snd h) g
theorem fs_bad {ms : List Me} {t : ByteArray} {m : Me} {er : Int} (h : fsF ms t = (m, er)) (he : er ≠ 0) : m = me0 ∧ plE ms t = er := by
  unfold fsF at h
  split at h
  · injection h with _ h
    exact absurd h.symm he
  · injection h with h1 h2
    exact ⟨h1.symm, h2⟩
theorem blk_twoB (w : World) (o p : Obj) : Below w.heap.size w ((w.alloc o).alloc p) := ((Below.refl _ _).alloc (Nat.le_refl _) _).alloc (by simp) _

set_option maxRecDepth 100000 in
set_option maxHeartbeats 4000000 in
theorem s_first (a : Option Addr) (c n : Nat) (ms : List Me) (t : ByteArray) (m : Me) (er : Int) (w : World) (hr : fsF ms t = (m, er)) (hn : ms.length = n) (h0 : n ≤ 1000) (hZ : OkMs ms) (hS : St w a ms) :
    Calls Try.prog 72 #[.agg #[.slice a n c], .string t] w fun e w' => ∃ a' c', e = .returned (.tuple #[.agg #[.string m.nm, .int .u8 m.ro, .bool m.su, .int .i64 m.lim, .slice a' m.ac.length c'], .int .i64 er]) ∧ OwnL w' w.heap.size 32 4 acc (.slice a' m.ac.length c') m.ac ∧ Below w.heap.size w w' := by
  have hbo := blk_twoB w (.cells #[.slice a n c] 24) (.cells #[.string ⟨#[]⟩, .int .u8 0, .bool false, .int .i64 0, .slice none 0 0] 30)
  have HX := Lib.hid (blk_two w (.cells #[.slice a n c] 24) (.cells #[.string ⟨#[]⟩, .int .u8 0, .bool false, .int .i64 0, .slice none 0 0] 30))
  have HS := Lib.hid hS
  have HN := Lib.hid hn
  have HZ := Lib.hid hZ
  have HR := Lib.hid hr
  clear hS hn hZ hr
  have hb : w.heap.size ≤ w.heap.size + 1 := by omega
  go_enter Try.func72, Try.ntmps72
  rcases chk_cases ms with hc | hc
  case inr =>
    have HE := Lib.hid (show m = me0 ∧ er = 8 by
      have h := HR.out
      have e : plE ms t = 8 := by unfold plE; rw [if_neg (by rw [hc]; decide)]
      unfold fsF at h
      rw [e, if_neg (by decide)] at h
      injection h with h1 h2
      exact ⟨h1.symm, h2.symm⟩)
    have HC := Lib.hid (fun wx (h : St wx a ms) => s_rcheck a c n ms 8 wx hc HN.out h0 HZ.out h)
    clear hc
    go_wp2_with fail
    generalize (w.alloc _).alloc _ = wo at hbo HX ⊢
    refine (HC.out wo (HS.out.below hbo)).mono ?_
    rintro e w1 ⟨rfl, hb1⟩
    have HY1 := Lib.hid (blk_keep HX.out.2 hb1)
    have c1 := bt hbo hb1 (Nat.le_refl _)
    have y0 := cell_of HY1.out 0 _ rfl
    have y1 := cell_of HY1.out 1 _ rfl
    have y2 := cell_of HY1.out 2 _ rfl
    have y3 := cell_of HY1.out 3 _ rfl
    have y4 := cell_of HY1.out 4 _ rfl
    have yf0 := frozen_of HY1.out 0
    have yf1 := frozen_of HY1.out 1
    have yf2 := frozen_of HY1.out 2
    have yf3 := frozen_of HY1.out 3
    have yf4 := frozen_of HY1.out 4
    clear HX hb1 hbo
    go_wp2_with fail
    have h5 := set5 HY1.out (.string ⟨#[]⟩) (.int .u8 0) (.bool false) (.int .i64 0) (.slice none 0 0)
    have r0 := cell_of h5 0 _ rfl
    have r1 := cell_of h5 1 _ rfl
    have r2 := cell_of h5 2 _ rfl
    have r3 := cell_of h5 3 _ rfl
    have r4 := cell_of h5 4 _ rfl
    refine bodyPost_ret (v := .tuple #[.agg #[.string ⟨#[]⟩, .int .u8 0, .bool false, .int .i64 0, .slice none 0 0], .int .i64 8]) (by simp [results, Try.results72, go_sem, r0, r1, r2, r3, r4]) rfl ⟨none, 0, by rw [HE.out.1, HE.out.2]; rfl, by rw [HE.out.1]; exact OwnL.nil _ _ _ _ _, ((((c1.setCell (p := ⟨w.heap.size + 1, 0, none⟩) hb _).setCell (p := ⟨w.heap.size + 1, 1, none⟩) hb _).setCell (p := ⟨w.heap.size + 1, 2, none⟩) hb _).setCell (p := ⟨w.heap.size + 1, 3, none⟩) hb _).setCell (p := ⟨w.heap.size + 1, 4, none⟩) hb _⟩
  case inl =>
    have HC := Lib.hid (fun wx (h : St wx a ms) => s_rcheck a c n ms 0 wx hc HN.out h0 HZ.out h)
    have HFD := Lib.hid (fd_has (t := t) hc)
    have HPE := Lib.hid (show plE ms t = if has (nms ms) t then 0 else 6 by unfold plE; rw [if_pos hc])
    have hl64 := ((chk_iff _).1 hc).1
    have HVA := Lib.hid (fun x hx => ((chk_iff _).1 hc).2.2 x hx)
    clear hc
    go_wp2_with fail
    generalize (w.alloc _).alloc _ = wo at hbo HX ⊢
    refine (HC.out wo (HS.out.below hbo)).mono ?_
    rintro e w1 ⟨rfl, hb1⟩
    have HX1 := Lib.hid (blk_keep HX.out.1 hb1)
    have HY1 := Lib.hid (blk_keep HX.out.2 hb1)
    have c1 := bt hbo hb1 (Nat.le_refl _)
    have x0 := cell_of HX1.out 0 _ rfl
    clear HX hb1 hbo HC
    go_wp2_with fail
    clear x0
    obtain ⟨hh, hhh⟩ : ∃ h, h = has (nms ms) t := ⟨_, rfl⟩
    rw [← hhh] at HFD HPE
    have HHH := Lib.hid hhh
    clear hhh
    cases hh
    case false =>
      have HE := Lib.hid (show m = me0 ∧ er = 6 by
        have h := HR.out
        have e : plE ms t = 6 := HPE.out
        unfold fsF at h
        rw [e, if_neg (by decide)] at h
        injection h with h1 h2
        exact ⟨h1.symm, h2.symm⟩)
      refine (s_rfind a c n ms t me0 0 false w1 HFD.out HN.out rfl h0 (HS.out.below c1)).mono ?_
      rintro e w2 ⟨a2, c2, rfl, hA2, hb2⟩
      have HY2 := Lib.hid (blk_keep HY1.out hb2)
      have c2' := bt c1 hb2 (Nat.le_refl _)
      have hal : Below w2.heap.size w2 (w2.alloc (.cells #[.string me0.nm, .int .u8 me0.ro, .bool me0.su, .int .i64 me0.lim, .slice a2 0 c2] 30)) := (Below.refl _ _).alloc (Nat.le_refl _) _
      have HY3 := Lib.hid (blk_keep HY2.out hal)
      have c3 := bt c2' hal (Nat.le_refl _)
      have y0 := cell_of HY2.out 0 _ rfl
      have y1 := cell_of HY2.out 1 _ rfl
      have y2 := cell_of HY2.out 2 _ rfl
      have y3 := cell_of HY2.out 3 _ rfl
      have y4 := cell_of HY2.out 4 _ rfl
      have yf0 := frozen_of HY2.out 0
      have yf1 := frozen_of HY2.out 1
      have yf2 := frozen_of HY2.out 2
      have yf3 := frozen_of HY2.out 3
      have yf4 := frozen_of HY2.out 4
      have yl := blk_lt HY2.out
      clear HX1 HY1 hb2 hA2 c1 c2' hal
      go_upto_region 4 with fail
      clear y0 y1 y2 y3 y4 yf0 yf1 yf2 yf3 yf4 yl
      generalize w2.alloc _ = w3 at HY3 c3 ⊢
      have y0 := cell_of HY3.out 0 _ rfl
      have y1 := cell_of HY3.out 1 _ rfl
      have y2 := cell_of HY3.out 2 _ rfl
      have y3 := cell_of HY3.out 3 _ rfl
      have y4 := cell_of HY3.out 4 _ rfl
      have yf0 := frozen_of HY3.out 0
      have yf1 := frozen_of HY3.out 1
      have yf2 := frozen_of HY3.out 2
      have yf3 := frozen_of HY3.out 3
      have yf4 := frozen_of HY3.out 4
      go_wp2_with fail
      have h5 := set5 HY3.out (.string ⟨#[]⟩) (.int .u8 0) (.bool false) (.int .i64 0) (.slice none 0 0)
      have r0 := cell_of h5 0 _ rfl
      have r1 := cell_of h5 1 _ rfl
      have r2 := cell_of h5 2 _ rfl
      have r3 := cell_of h5 3 _ rfl
      have r4 := cell_of h5 4 _ rfl
      refine bodyPost_ret (v := .tuple #[.agg #[.string ⟨#[]⟩, .int .u8 0, .bool false, .int .i64 0, .slice none 0 0], .int .i64 6]) (by simp [results, Try.results72, go_sem, r0, r1, r2, r3, r4]) rfl ⟨none, 0, by rw [HE.out.1, HE.out.2]; rfl, by rw [HE.out.1]; exact OwnL.nil _ _ _ _ _, ((((c3.setCell (p := ⟨w.heap.size + 1, 0, none⟩) hb _).setCell (p := ⟨w.heap.size + 1, 1, none⟩) hb _).setCell (p := ⟨w.heap.size + 1, 2, none⟩) hb _).setCell (p := ⟨w.heap.size + 1, 3, none⟩) hb _).setCell (p := ⟨w.heap.size + 1, 4, none⟩) hb _⟩
    case true =>
      have HE := Lib.hid (show at_ ms t = m ∧ er = 0 by
        have h := HR.out
        have e : plE ms t = 0 := HPE.out
        unfold fsF at h
        rw [if_pos e] at h
        injection h with h1 h2
        exact ⟨h1, h2.symm⟩)
      have HFD2 := Lib.hid (show fdM ms t = (m, true) by rw [HFD.out, ← HE.out.1]; rfl)
      have hml : m.ac.length ≤ 1000 := (HZ.out _ (fd_yes_in HFD2.out).1).len
      refine (s_rfind a c n ms t m m.ac.length true w1 HFD2.out HN.out rfl h0 (HS.out.below c1)).mono ?_
      rintro e w2 ⟨a2, c2, rfl, hA2, hb2⟩
      have hal : Below w2.heap.size w2 (w2.alloc (.cells #[.string m.nm, .int .u8 m.ro, .bool m.su, .int .i64 m.lim, .slice a2 m.ac.length c2] 30)) := (Below.refl _ _).alloc (Nat.le_refl _) _
      have HY3 := Lib.hid (blk_keep (blk_keep HY1.out hb2) hal)
      have c3 := bt (bt c1 hb2 (Nat.le_refl _)) hal (Nat.le_refl _)
      have HA3 := Lib.hid (hA2.below hal)
      clear HX1 HY1 hb2 hA2 c1 hal
      go_wp2_with fail
      generalize w2.alloc _ = w3 at HY3 c3 HA3 ⊢
      have HTW := Lib.hid (rtwin_any (m, (a2, c2)) w3 hml HA3.out)
      refine HTW.out.mono ?_
      rintro e w4 ⟨a4, c4, rfl, ho, hb4⟩
      have HY4 := Lib.hid (blk_keep HY3.out hb4)
      have c4' := bt c3 hb4 (Nat.le_refl _)
      have HO := Lib.hid (show OwnL w4 w.heap.size 32 4 acc (.slice a4 m.ac.length c4) m.ac from ho.lower' c3.size)
      clear HY3 c3 HA3 HTW hb4 ho
      have y0 := cell_of HY4.out 0 _ rfl
      have y1 := cell_of HY4.out 1 _ rfl
      have y2 := cell_of HY4.out 2 _ rfl
      have y3 := cell_of HY4.out 3 _ rfl
      have y4 := cell_of HY4.out 4 _ rfl
      have yf0 := frozen_of HY4.out 0
      have yf1 := frozen_of HY4.out 1
      have yf2 := frozen_of HY4.out 2
      have yf3 := frozen_of HY4.out 3
      have yf4 := frozen_of HY4.out 4
      go_wp2_with fail
      have h5 := set5 HY4.out (.string m.nm) (.int .u8 m.ro) (.bool m.su) (.int .i64 m.lim) (.slice a4 m.ac.length c4)
      have r0 := cell_of h5 0 _ rfl
      have r1 := cell_of h5 1 _ rfl
      have r2 := cell_of h5 2 _ rfl
      have r3 := cell_of h5 3 _ rfl
      have r4 := cell_of h5 4 _ rfl
      have hno := own_blk HO.out HY4.out (by decide)
      refine bodyPost_ret (v := .tuple #[.agg #[.string m.nm, .int .u8 m.ro, .bool m.su, .int .i64 m.lim, .slice a4 m.ac.length c4], .int .i64 0]) (by simp [results, Try.results72, go_sem, r0, r1, r2, r3, r4]) rfl ⟨a4, c4, by rw [HE.out.2], ((((HO.out.far (p := ⟨w.heap.size + 1, 0, none⟩) hno _).far (p := ⟨w.heap.size + 1, 1, none⟩) hno _).far (p := ⟨w.heap.size + 1, 2, none⟩) hno _).far (p := ⟨w.heap.size + 1, 3, none⟩) hno _).far (p := ⟨w.heap.size + 1, 4, none⟩) hno _, ((((c4'.setCell (p := ⟨w.heap.size + 1, 0, none⟩) hb _).setCell (p := ⟨w.heap.size + 1, 1, none⟩) hb _).setCell (p := ⟨w.heap.size + 1, 2, none⟩) hb _).setCell (p := ⟨w.heap.size + 1, 3, none⟩) hb _).setCell (p := ⟨w.heap.size + 1, 4, none⟩) hb _⟩
end Go.Proofs.Ytoemjpfoddeinaa.Mb
