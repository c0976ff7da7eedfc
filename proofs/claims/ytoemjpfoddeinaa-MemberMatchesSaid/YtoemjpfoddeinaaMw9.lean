/-
  Member: the walk of touch, which writes into all members and accounts of a state.
-/
import Derived.Test.YtoemjpfoddeinaaMbT
import Derived.Test.YtoemjpfoddeinaaMwL
import Derived.Test.YtoemjpfoddeinaaMbV
namespace Go.Proofs.Ytoemjpfoddeinaa.Mb
open Go.RowKit Go.Proofs.Ytoemjpfoddeinaa Go.Proofs.Ytoemjpfoddeinaa.Ls Go.Proofs.Ytoemjpfoddeinaa.Kb
open Go.Proofs.Ytoemjpfoddeinaa.Nm hiding ret_bool ret_int

/-- all blocks of a state lie ahead of E -/
structure InE (E : Nat) (a : Option Addr) (ys : List P) : Prop where
  ms : ∀ g, a = some ⟨g, 0, none⟩ → g < E
  ac : ∀ y ∈ ys, ∀ g, y.2.1 = some ⟨g, 0, none⟩ → g < E
/-- nothing is changed but in the blocks from B to E -/
def Fr (B E : Nat) (w w' : World) : Prop := Below B w w' ∧ ∀ b, E ≤ b → b < w.heap.size → w'.heap[b]? = w.heap[b]?
theorem Fr.put {B E : Nat} {w w' : World} (h : Fr B E w w') {g o : Nat} (v : Value) (h1 : B ≤ g) (h2 : g < E) : Fr B E w (w'.setCell ⟨g, o, none⟩ v) := by
  refine ⟨h.1.setCell (p := ⟨g, o, none⟩) h1 v, fun b hb hs => ?_⟩
  rw [← h.2 b hb hs]
  simp [World.setCell, Array.getElem?_modify, show g ≠ b by omega]
theorem InE.set {E : Nat} {a : Option Addr} {ys : List P} {j : Nat} {y : P} (h : InE E a ys) (hj : j < ys.length) (hy : y.2 = (gp ys j).2) : InE E a (ys.set j y) := by
  refine ⟨h.ms, fun z hz g hg => ?_⟩
  rcases List.mem_or_eq_of_mem_set hz with hz | rfl
  · exact h.ac z hz g hg
  · rw [hy] at hg
    exact h.ac _ (gp_mem ys j hj) g hg
structure Tch (B E n : Nat) (a : Option Addr) (c : Nat) (w : World) (X : Nat) (ys : List P) (wr : World) : Prop where
  len : ys.length = n
  lens : ∀ y ∈ ys, y.1.ac.length ≤ 1000
  own : OwnM wr B a c ys
  ine : InE E a ys
  fr : Fr B E w wr
  box : wr.heap[X]? = some (.cells #[.slice a n c] 24 (0, 0))
theorem lens_set {ys : List P} {j : Nat} {y : P} (h : ∀ y ∈ ys, y.1.ac.length ≤ 1000) (hy : y.1.ac.length ≤ 1000) : ∀ z ∈ ys.set j y, z.1.ac.length ≤ 1000 := fun z hz => by
  rcases List.mem_or_eq_of_mem_set hz with hz | rfl
  · exact h z hz
  · exact hy
theorem Tch.lim {B E n g c X j : Nat} {w wr : World} {ys : List P} (h : Tch B E n (some ⟨g, 0, none⟩) c w X ys wr) (hj : j < n) (l : Int) :
    Tch B E n (some ⟨g, 0, none⟩) c w X (ys.set j ({ (gp ys j).1 with lim := l }, (gp ys j).2)) (wr.setCell ⟨g, j * 5 + 3, none⟩ (.int .i64 l)) := by
  have hi : j < ys.length := by rw [h.len]; exact hj
  have hBg := (mem_at h.own hi).2.2.1
  exact ⟨by rw [List.length_set]; exact h.len, lens_set h.lens (by have := h.lens _ (gp_mem ys j hi); exact this), h.own.put hi (by decide) _ _ (mec_lim _ _) (row_set hi h.own.rows rfl rfl), h.ine.set hi rfl, h.fr.put _ hBg (h.ine.ms g rfl), box_put h.own _ _ _ h.box⟩
theorem Tch.us {B E n g c X j ga' J : Nat} {w wr : World} {ys : List P} (h : Tch B E n (some ⟨g, 0, none⟩) c w X ys wr) (hj : j < n) (hs : (gp ys j).2.1 = some ⟨ga', 0, none⟩) (hJ : J < (gp ys j).1.ac.length) (l : Int) :
    Tch B E n (some ⟨g, 0, none⟩) c w X (ys.set j (({ (gp ys j).1 with ac := (gp ys j).1.ac.set J { ga (gp ys j).1.ac J with us := l } } : Me), (gp ys j).2)) (wr.setCell ⟨ga', J * 4 + 3, none⟩ (.int .i64 l)) := by
  have hi : j < ys.length := by rw [h.len]; exact hj
  obtain ⟨h1, h2, h3⟩ := put_us h.own hi hs J hJ l
  have hrow := h.own.rows.own _ (gp_mem ys j hi)
  have hsl : sl (gp ys j) = .slice (some ⟨ga', 0, none⟩) (gp ys j).1.ac.length (gp ys j).2.2 := by unfold sl; rw [hs]
  rw [hsl] at hrow
  have hB := (hrow.lt ga' rfl).1
  exact ⟨by rw [List.length_set]; exact h.len, lens_set h.lens (by show (List.set _ _ _).length ≤ 1000; rw [List.length_set]; exact h.lens _ (gp_mem ys j hi)), h1, h.ine.set hi rfl, h.fr.put _ hB (h.ine.ac _ (gp_mem ys j hi) ga' hs), h2 _ _ h.box⟩
/-- an account's last cell -/
theorem acc_at {w : World} {B g c q : Nat} {l : List Ac} (h : OwnL w B 32 4 acc (.slice (some ⟨g, 0, none⟩) l.length c) l) (hq : q < l.length) :
    w.cell? ⟨g, q * 4 + 3, none⟩ = some (.int .i64 (ga l q).us) ∧ w.frozen? ⟨g, q * 4 + 3, none⟩ = false := by
  have h0 := at_a' (h.sl acc_len).1 q hq
  simp only [Nat.zero_add] at h0
  obtain ⟨cur, h1, h2, h3, h4, h5, h6⟩ := h.row'
  exact ⟨h0.2.2.2, (h.there _ (by have : (q + 1) * 4 ≤ c * 4 := Nat.mul_le_mul_right _ (by omega); omega)).2⟩

set_option maxRecDepth 100000 in
set_option maxHeartbeats 4000000 in
theorem touch_any {w : World} {B E : Nat} (a : Option Addr) (c n : Nat) (xs : List P) (hl : xs.length = n) (hn : n ≤ 1000) (hZ : ∀ x ∈ xs, x.1.ac.length ≤ 1000) (hB : B ≤ w.heap.size) (hO : OwnM w B a c xs) (hE : InE E a xs) :
    Calls Try.prog 35 #[.agg #[.slice a n c]] w fun e w' => e = .returned (.tuple #[]) ∧ Fr B E w w' := by
  have hbo : Below w.heap.size w (w.alloc (.cells #[.slice a n c] 24)) := (Below.refl _ _).alloc (Nat.le_refl _) _
  obtain ⟨X, hX⟩ : ∃ X, X = w.heap.size := ⟨_, rfl⟩
  have HT := Lib.hid (show Tch B E n a c w X xs (w.alloc (.cells #[.slice a n c] 24)) from ⟨hl, hZ, hO.below hbo, hE, ⟨hbo.mono hB, fun b _ h => hbo.block b h⟩, by rw [hX]; exact blk_new w _⟩)
  clear hbo hl hZ hO hE hB
  go_enter Try.func35, Try.ntmps35
  go_wp2_with fail
  rw [← hX]
  clear hX
  generalize w.alloc _ = w0 at HT ⊢
  go_loopw [2, 3] (fun i _ wr => ∃ (j : Nat) (ys : List P), j ≤ n ∧ i = .int .i64 j ∧ Hid (Tch B E n a c w X ys wr)) (fun i _ _ => n - (intOf i).toNat)
  case atStart => exact ⟨0, xs, by omega, rfl, HT⟩
  case round =>
    obtain ⟨j, ys, hj, rfl, HY⟩ := hrel
    have x0 := cell_of HY.out.box 0 _ rfl
    clear HT
    by_cases hlt : j < n
    · have j0 : (0 : Int) ≤ j := by omega
      have j1 : (j : Int) < n := by omega
      obtain ⟨g, cur, rfl, -⟩ := HY.out.own.ms.row (by rw [HY.out.len]; omega)
      have hjl : j < ys.length := by rw [HY.out.len]; exact hlt
      obtain ⟨⟨q0, q1, q2, q3, q4⟩, hfz, -, hgl⟩ := mem_at HY.out.own hjl
      have f3 := hfz 3 (by omega)
      clear hfz q0 q1 q2 q4
      have HT1 := Lib.hid (HY.out.lim hlt (-7))
      obtain ⟨L, hL⟩ : ∃ L, L = (gp ys j).1.ac.length := ⟨_, rfl⟩
      obtain ⟨pp, hpp⟩ : ∃ p, p = (gp ys j).2 := ⟨_, rfl⟩
      obtain ⟨zs, hzs⟩ : ∃ zs, zs = ys.set j ({ (gp ys j).1 with lim := -7 }, (gp ys j).2) := ⟨_, rfl⟩
      have HP := Lib.hid (show (gp zs j).2 = pp by rw [hzs, gp_set _ _ _ hjl, hpp])
      have HL := Lib.hid (show (gp zs j).1.ac.length = L by rw [hzs, gp_set _ _ _ hjl, hL])
      have hLb : L ≤ 1000 := by rw [hL]; exact HY.out.lens _ (gp_mem ys j hjl)
      rw [← hzs] at HT1
      obtain ⟨pa, pc⟩ := pp
      clear hzs hL hpp
      go_wp2_with fail
      clear x0 q3 f3
      generalize World.setCell _ ⟨g, j * 5 + 3, none⟩ _ = w1 at HT1 ⊢
      clear HY hgl hjl
      go_loopw [3] (fun i wr => ∃ (q : Nat) (zs : List P), q ≤ L ∧ i = .int .i64 q ∧ Hid (Tch B E n (some ⟨g, 0, none⟩) c w X zs wr) ∧ Hid ((gp zs j).2 = (pa, pc)) ∧ Hid ((gp zs j).1.ac.length = L)) (fun i _ => L - (intOf i).toNat)
      case atStart => exact ⟨0, zs, by omega, rfl, HT1, HP, HL⟩
      case round =>
        obtain ⟨q, zs, hq, rfl, HY, HP, HL⟩ := hrel
        have x0 := cell_of HY.out.box 0 _ rfl
        have hjl : j < zs.length := by rw [HY.out.len]; exact hlt
        obtain ⟨⟨q0, q1, q2, q3, q4⟩, -, -, hgl⟩ := mem_at HY.out.own hjl
        rw [HL.out, HP.out] at q4
        clear q0 q1 q2 q3
        by_cases hlt2 : q < L
        · have k0 : (0 : Int) ≤ q := by omega
          have k1 : (q : Int) < L := by omega
          have hrow := HY.out.own.rows.own _ (gp_mem zs j hjl)
          have hsl : sl (gp zs j) = .slice pa (gp zs j).1.ac.length pc := by unfold sl; rw [HP.out]
          rw [hsl] at hrow
          obtain ⟨g2, cur2, rfl, -⟩ := hrow.row (by rw [HL.out]; omega)
          obtain ⟨p3, pf⟩ := acc_at hrow (q := q) (by rw [HL.out]; exact hlt2)
          have hl2 := World.block_lt_of_cell? _ _ p3
          have HT2 := Lib.hid (HY.out.us hlt (by rw [HP.out]) (show q < (gp zs j).1.ac.length by rw [HL.out]; exact hlt2) (-7))
          have HP2 := Lib.hid (show (gp (zs.set j (({ (gp zs j).1 with ac := (gp zs j).1.ac.set q { ga (gp zs j).1.ac q with us := -7 } } : Me), (gp zs j).2)) j).2 = (some ⟨g2, 0, none⟩, pc) by rw [gp_set _ _ _ hjl]; exact HP.out)
          have HL2 := Lib.hid (show (gp (zs.set j (({ (gp zs j).1 with ac := (gp zs j).1.ac.set q { ga (gp zs j).1.ac q with us := -7 } } : Me), (gp zs j).2)) j).1.ac.length = L by rw [gp_set _ _ _ hjl]; show (List.set _ _ _).length = L; rw [List.length_set]; exact HL.out)
          clear hrow hsl cur2
          go_wp2_with fail
          go_roundw
          case rel => exact ⟨q + 1, _, by omega, by go_num, HT2, HP2, HL2⟩
          case measure => simp [intOf]; omega
        · have k1 : ¬ (q : Int) < L := by omega
          have HX := Lib.hid (show ∃ ys, Tch B E n (some ⟨g, 0, none⟩) c w X ys wr from ⟨zs, HY.out⟩)
          go_wp2_with fail
          obtain ⟨ys2, hy2⟩ := HX.out
          go_roundw
          case rel => exact ⟨j + 1, ys2, by omega, by go_num, Lib.hid hy2⟩
          case measure => simp [intOf]; omega
    · have j1 : ¬ (j : Int) < n := by omega
      have HF := Lib.hid HY.out.fr
      go_wp2_with fail
      exact bodyPost_end (v := .tuple #[]) (by simp [results, Try.results35, go_sem]) rfl ⟨rfl, HF.out⟩
end Go.Proofs.Ytoemjpfoddeinaa.Mb

namespace Go.Proofs.Ytoemjpfoddeinaa.Mb
open Go.RowKit Go.Proofs.Ytoemjpfoddeinaa Go.Proofs.Ytoemjpfoddeinaa.Ls Go.Proofs.Ytoemjpfoddeinaa.Kb
open Go.Proofs.Ytoemjpfoddeinaa.Nm hiding ret_bool ret_int

theorem sto_in {w : World} {B c : Nat} {a : Option Addr} {ms : List Me} (h : StO w B a c ms) : ∃ xs, fst xs = ms ∧ OwnM w B a c xs ∧ InE w.heap.size a xs := by
  obtain ⟨xs, h1, h2⟩ := h
  refine ⟨xs, h1, h2, ⟨fun g hg => (h2.ms.lt g (by rw [hg]; rfl)).2, fun y hy g hg => ((h2.rows.own y hy).lt g (by unfold sl; rw [hg]; rfl)).2⟩⟩
/-- what is owned in blocks that stay -/
theorem own_stay {α : Type} {w w' : World} {B k : Nat} {T : TypeId} {f : α → List Value} {v : Value} {xs : List α} (h : OwnL w B T k f v xs) (hs : ∀ b, v.ownBlock = some b → w'.heap[b]? = w.heap[b]?) : OwnL w' B T k f v xs := by
  obtain ⟨h1, h2⟩ := h
  refine ⟨h1, ?_⟩
  rcases h2 with h2 | ⟨g, cap, cur, hv, hb, hg, hr⟩
  · exact .inl h2
  · exact .inr ⟨g, cap, cur, hv, hb, (hs g (by rw [hv]; rfl)).trans hg, hr⟩
/-- a new list of one member -/
theorem own_one {w : World} {B c : Nat} {a : Option Addr} {m : Me} {n : Nat} (hn : m.ac.length = n) (hB : B ≤ w.heap.size) (h : OwnL w B 32 4 acc (.slice a n c) m.ac) :
    OwnM (w.alloc (.cells #[.string m.nm, .int .u8 m.ro, .bool m.su, .int .i64 m.lim, .slice a n c] 30)) B (some ⟨w.heap.size, 0, none⟩) 1 [(m, (a, c))] := by
  subst hn
  refine ⟨⟨by simp [mec], .inr ⟨w.heap.size, 1, _, rfl, hB, blk_new w _, by simp, by unfold maxLen; omega, by simp, by simp [mec]⟩⟩, ⟨fun x hx => ?_, List.pairwise_singleton _ _⟩⟩
  rw [List.mem_singleton] at hx
  subst hx
  exact h.below ((Below.refl _ _).alloc (Nat.le_refl _) _)
theorem in_one {w : World} {B c : Nat} {a : Option Addr} {m : Me} {n : Nat} (hn : m.ac.length = n) (h : OwnL w B 32 4 acc (.slice a n c) m.ac) : InE (w.heap.size + 1) (some ⟨w.heap.size, 0, none⟩) [(m, (a, c))] := by
  subst hn
  refine ⟨fun g hg => by cases hg; omega, fun y hy g hg => ?_⟩
  rw [List.mem_singleton] at hy
  subst hy
  have := (h.lt g (by dsimp only at hg; rw [hg]; rfl)).2
  omega
theorem len_mof {ms' : List Me} {n' : Nat} {ms : List Me} {o : Opp} {er : Int} (h : callF ms o = (ms', er)) (hn : ms'.length = n') : n' ≤ 64 ∧ ∀ m ∈ ms', m.ac.length ≤ 1000 := by
  by_cases he : er = 0
  · subst he
    have hc := (call_in h).2.1
    exact ⟨by have := ((chk_iff _).1 hc).1; omega, fun m hm => (chk_okms hc m hm).len⟩
  · have h1 := call_ne (ms := ms) (o := o) (by rw [h]; exact he)
    rw [h] at h1
    have h2 : ms' = [] := h1
    rw [h2] at hn ⊢
    simp at hn
    exact ⟨by omega, fun m hm => by cases hm⟩
theorem fd_len {ms : List Me} {t : ByteArray} {m : Me} {b : Bool} (h : fdM ms t = (m, b)) (hl : ∀ m ∈ ms, m.ac.length ≤ 1000) : m.ac.length ≤ 1000 := by
  cases b
  · unfold fdM at h
    split at h
    · injection h with h1 h2
      cases h2
    · injection h with h1 h2
      rw [← h1]
      decide
  · exact hl _ (fd_yes_in h).1

set_option maxRecDepth 100000 in
set_option maxHeartbeats 8000000 in
theorem matches_walk {W : World} (a : Option Addr) (c : Nat) (xs : List P) (hz : ∀ x ∈ xs, RawM x.1) (hx : xs.length ≤ maxLen) (hA : AtM W a xs) (o : Opp) (ho : OkO o) :
    Calls Try.prog 10 #[.agg #[.slice a xs.length c], .agg #[.int .u8 o.kd, .string o.nm, .string o.fr, .string o.tt, .int .u8 o.ro, .bool o.is, .int .i64 o.am]] W fun e w' => e = .returned (.bool true) ∧ Below W.heap.size W w' := by
  have hb0 : Below W.heap.size W ((W.alloc (.cells #[.slice a xs.length c] 24)).alloc (.cells #[.int .u8 o.kd, .string o.nm, .string o.fr, .string o.tt, .int .u8 o.ro, .bool o.is, .int .i64 o.am] 48)) := ((Below.refl _ _).alloc (Nat.le_refl _) _).alloc (by simp) _
  have HX := Lib.hid (blk_two W (.cells #[.slice a xs.length c] 24) (.cells #[.int .u8 o.kd, .string o.nm, .string o.fr, .string o.tt, .int .u8 o.ro, .bool o.is, .int .i64 o.am] 48))
  have HA := Lib.hid hA
  have HZ := Lib.hid hz
  have HO := Lib.hid ho
  clear hA hz ho
  go_enter Try.func10, Try.ntmps10
  go_wp2_with fail
  generalize (W.alloc _).alloc _ = w0 at hb0 HX ⊢
  refine (alive_any w0).mono ?_
  rintro e w1 ⟨rfl, hb⟩
  have S1 := Lib.hid (blk_keep HX.out.1 hb)
  have O1 := Lib.hid (blk_keep HX.out.2 hb)
  have B1 := Lib.hid (bt hb0 hb (Nat.le_refl _))
  have ld := cell_of S1.out 0 _ rfl
  clear hb0 HX hb
  go_wp2_with fail
  clear ld
  refine (great_any a c xs w1 hx (HA.out.below B1.out)).mono ?_
  rintro e w2 ⟨rfl, hb⟩
  have S2 := Lib.hid (blk_keep S1.out hb)
  have O2 := Lib.hid (blk_keep O1.out hb)
  have B2 := Lib.hid (bt B1.out hb (Nat.le_refl _))
  clear S1 O1 B1 hb
  rcases Kb.hb (grB xs) with hg | hg
  case inl =>
    rw [hg]
    go_wp2_with fail
    go_ret
    exact ⟨rfl, B2.out⟩
  rw [hg]
  obtain ⟨hn80, hac⟩ := gr_small hg
  have HOK := Lib.hid (show OkMs (fst xs) from fun m hm => by
    obtain ⟨x, hx, rfl⟩ := List.mem_map.1 hm
    exact (HZ.out x hx).ok (by have := hac x hx; omega))
  have HST := Lib.hid (show St w2 a (fst xs) from ⟨xs, rfl, HA.out.below B2.out⟩)
  have HLN := Lib.hid (show ∀ m ∈ fst xs, m.ac.length ≤ 1000 from fun m hm => (HOK.out m hm).len)
  obtain ⟨n, hn⟩ : ∃ n, n = xs.length := ⟨_, rfl⟩
  have HN := Lib.hid (show (fst xs).length = n by rw [fst_len, hn])
  rw [← hn] at S2 hn80 ⊢
  obtain ⟨ms, hms⟩ : ∃ ms, ms = fst xs := ⟨_, rfl⟩
  rw [← hms] at HOK HST HLN HN
  clear hg hac HA HZ hx hn hms
  have ld := cell_of S2.out 0 _ rfl
  have ll := blk_lt S2.out
  go_wp2_with fail
  clear ld ll
  refine (s_twin a c n ms w2 HN.out (by omega) HLN.out HST.out).mono ?_
  rintro e v3 ⟨a3, c3, rfl, hT3, hb⟩
  have hb0 := hb
  have ld0 := cell_of (blk_keep O2.out hb) 0 _ rfl
  have ll0 := blk_lt (blk_keep O2.out hb)
  have ld1 := cell_of (blk_keep O2.out hb) 1 _ rfl
  have ll1 := blk_lt (blk_keep O2.out hb)
  have ld2 := cell_of (blk_keep O2.out hb) 2 _ rfl
  have ll2 := blk_lt (blk_keep O2.out hb)
  have ld3 := cell_of (blk_keep O2.out hb) 3 _ rfl
  have ll3 := blk_lt (blk_keep O2.out hb)
  have ld4 := cell_of (blk_keep O2.out hb) 4 _ rfl
  have ll4 := blk_lt (blk_keep O2.out hb)
  have ld5 := cell_of (blk_keep O2.out hb) 5 _ rfl
  have ll5 := blk_lt (blk_keep O2.out hb)
  have ld6 := cell_of (blk_keep O2.out hb) 6 _ rfl
  have ll6 := blk_lt (blk_keep O2.out hb)
  have hal : Below v3.heap.size v3 (v3.alloc (.cells #[.slice a3 n c3] 24)) := (Below.refl _ _).alloc (Nat.le_refl _) _
  have hnw := blk_new v3 (.cells #[.slice a3 n c3] 24)
  obtain ⟨XO, hX⟩ : ∃ X, X = v3.heap.size := ⟨_, rfl⟩
  have B3 := Lib.hid (bt (bt B2.out hb (Nat.le_refl _)) hal (Nat.le_refl _))
  have S_3 := Lib.hid (blk_keep (blk_keep S2.out hb) hal)
  have O_3 := Lib.hid (blk_keep (blk_keep O2.out hb) hal)
  have hs_3 := Lib.hid ((HST.out.below hb).below hal)
  have own_3 := Lib.hid ((hT3.st).below hal)
  rw [← hX] at hnw
  have OWN_3 := Lib.hid hnw
  clear hb hb0 B2 S2 O2 HST hT3
  go_wp2_with fail
  clear ld0 ll0 ld1 ll1 ld2 ll2 ld3 ll3 ld4 ll4 ld5 ll5 ld6 ll6
  rw [← hX]
  clear hX
  clear hal hnw
  generalize v3.alloc _ = w3 at B3 S_3 O_3 hs_3 own_3 OWN_3 ⊢
  obtain ⟨ms', hms'⟩ : ∃ m, m = (callF ms o).1 := ⟨_, rfl⟩
  obtain ⟨er, her⟩ : ∃ e, e = (callF ms o).2 := ⟨_, rfl⟩
  have HCF := Lib.hid (show callF ms o = (ms', er) by rw [hms', her])
  obtain ⟨n', hn'⟩ : ∃ n', n' = ms'.length := ⟨_, rfl⟩
  have HN' := Lib.hid hn'.symm
  clear hms' her hn'
  have HLM := Lib.hid (len_mof HCF.out HN'.out)
  have hn64 := HLM.out.1
  have HBW := B3
  have HOW0 := Lib.hid own_3.out
  have HHS0 := Lib.hid hs_3.out
  have HS0 := Lib.hid S_3.out
  have HOWB := Lib.hid OWN_3.out
  obtain ⟨V, hV⟩ : ∃ V, V = w3 := ⟨_, rfl⟩
  clear hV V
  have B4 := Lib.hid (Below.refl w3.heap.size w3)
  refine (s_call a3 c3 n ms o ms' n' er w3 HCF.out HN.out HN'.out (by omega) HO.out HOK.out own_3.out).mono ?_
  rintro e v5 ⟨a4, c4, rfl, hT4, hb⟩
  have hb0 := hb
  have ld0 := cell_of (blk_keep S_3.out hb) 0 _ rfl
  have ll0 := blk_lt (blk_keep S_3.out hb)
  have ld1 := cell_of (blk_keep O_3.out hb) 0 _ rfl
  have ll1 := blk_lt (blk_keep O_3.out hb)
  have ld2 := cell_of (blk_keep O_3.out hb) 1 _ rfl
  have ll2 := blk_lt (blk_keep O_3.out hb)
  have ld3 := cell_of (blk_keep O_3.out hb) 2 _ rfl
  have ll3 := blk_lt (blk_keep O_3.out hb)
  have ld4 := cell_of (blk_keep O_3.out hb) 3 _ rfl
  have ll4 := blk_lt (blk_keep O_3.out hb)
  have ld5 := cell_of (blk_keep O_3.out hb) 4 _ rfl
  have ll5 := blk_lt (blk_keep O_3.out hb)
  have ld6 := cell_of (blk_keep O_3.out hb) 5 _ rfl
  have ll6 := blk_lt (blk_keep O_3.out hb)
  have ld7 := cell_of (blk_keep O_3.out hb) 6 _ rfl
  have ll7 := blk_lt (blk_keep O_3.out hb)
  obtain ⟨ys, hys, hOy, hIy⟩ := sto_in hT4
  have hVA := hb.size
  have hal : Below v5.heap.size v5 (v5.alloc (.cells #[.slice a4 n' c4] 24)) := (Below.refl _ _).alloc (Nat.le_refl _) _
  have hnw := blk_new v5 (.cells #[.slice a4 n' c4] 24)
  obtain ⟨XA, hX⟩ : ∃ X, X = v5.heap.size := ⟨_, rfl⟩
  have B5 := Lib.hid (bt (bt B4.out hb (Nat.le_refl _)) hal (Nat.le_refl _))
  have S_5 := Lib.hid (blk_keep (blk_keep S_3.out hb) hal)
  have O_5 := Lib.hid (blk_keep (blk_keep O_3.out hb) hal)
  have hs_5 := Lib.hid ((hs_3.out.below hb).below hal)
  have own_5 := Lib.hid ((own_3.out.below hb).below hal)
  have OWN_5 := Lib.hid (blk_keep (blk_keep OWN_3.out hb) hal)
  have ya_5 := Lib.hid ((hOy).below hal)
  rw [← hX] at hnw
  have A_5 := Lib.hid hnw
  clear hb hb0 B4 S_3 O_3 hs_3 own_3 OWN_3 hT4 hOy
  go_wp2_with fail
  clear ld0 ll0 ld1 ll1 ld2 ll2 ld3 ll3 ld4 ll4 ld5 ll5 ld6 ll6 ld7 ll7
  have HIY := Lib.hid (show InE XA a4 ys by rw [hX]; exact hIy)
  have HYS := Lib.hid hys
  have HVX := Lib.hid (show w3.heap.size ≤ XA by rw [hX]; exact hVA)
  clear hys hIy hVA
  rw [← hX]
  clear hX
  clear hal hnw
  generalize v5.alloc _ = w5 at B5 S_5 O_5 hs_5 own_5 OWN_5 ya_5 A_5 ⊢
  refine (s_asked a c n ms o ms' n' er w5 HCF.out HN.out HN'.out hn80 HO.out HOK.out hs_5.out).mono ?_
  rintro e v6 ⟨a5, c5, rfl, hS5, hb⟩
  have hb0 := hb
  have ld0 := cell_of (blk_keep OWN_5.out hb) 0 _ rfl
  have ll0 := blk_lt (blk_keep OWN_5.out hb)
  have ld1 := cell_of (blk_keep O_5.out hb) 1 _ rfl
  have ll1 := blk_lt (blk_keep O_5.out hb)
  have hal : Below v6.heap.size v6 (v6.alloc (.cells #[.slice a5 n' c5] 24)) := (Below.refl _ _).alloc (Nat.le_refl _) _
  have hnw := blk_new v6 (.cells #[.slice a5 n' c5] 24)
  obtain ⟨XQ, hX⟩ : ∃ X, X = v6.heap.size := ⟨_, rfl⟩
  have B6 := Lib.hid (bt (bt B5.out hb (Nat.le_refl _)) hal (Nat.le_refl _))
  have S_6 := Lib.hid (blk_keep (blk_keep S_5.out hb) hal)
  have O_6 := Lib.hid (blk_keep (blk_keep O_5.out hb) hal)
  have hs_6 := Lib.hid ((hs_5.out.below hb).below hal)
  have own_6 := Lib.hid ((own_5.out.below hb).below hal)
  have OWN_6 := Lib.hid (blk_keep (blk_keep OWN_5.out hb) hal)
  have ya_6 := Lib.hid ((ya_5.out.below hb).below hal)
  have A_6 := Lib.hid (blk_keep (blk_keep A_5.out hb) hal)
  have tb_6 := Lib.hid ((hS5).below hal)
  rw [← hX] at hnw
  have Q_6 := Lib.hid hnw
  clear hb hb0 B5 S_5 O_5 hs_5 own_5 OWN_5 ya_5 A_5 hS5
  go_wp2_with fail
  clear ld0 ll0 ld1 ll1
  rw [← hX]
  clear hX
  clear hal hnw
  generalize v6.alloc _ = w6 at B6 S_6 O_6 hs_6 own_6 OWN_6 ya_6 A_6 tb_6 Q_6 ⊢
  obtain ⟨m, hm⟩ : ∃ m, m = (fdM ms o.nm).1 := ⟨_, rfl⟩
  obtain ⟨is, his⟩ : ∃ b, b = (fdM ms o.nm).2 := ⟨_, rfl⟩
  have HFM := Lib.hid (show fdM ms o.nm = (m, is) by rw [hm, his])
  obtain ⟨nl, hnl⟩ : ∃ nl, nl = m.ac.length := ⟨_, rfl⟩
  have HNL := Lib.hid hnl.symm
  clear hm his hnl
  have HNB := Lib.hid (fd_len HFM.out HLN.out)
  have hnlb : nl ≤ 1000 := by have := HNB.out; have := HNL.out; omega
  have hAle := Nat.le_of_lt (blk_lt A_6.out)
  refine (s_mfind a3 c3 n ms o.nm m nl is w6 HFM.out HN.out HNL.out (by omega) HLN.out own_6.out).mono ?_
  rintro e v7 ⟨am, cm, rfl, hM6, hb⟩
  have hb0 := hb
  have ld0 := cell_of (blk_keep S_6.out hb) 0 _ rfl
  have ll0 := blk_lt (blk_keep S_6.out hb)
  have ld1 := cell_of (blk_keep O_6.out hb) 1 _ rfl
  have ll1 := blk_lt (blk_keep O_6.out hb)
  have hAM := blk_lt (blk_keep A_6.out hb)
  have hal : Below v7.heap.size v7 (v7.alloc (.cells #[.string m.nm, .int .u8 m.ro, .bool m.su, .int .i64 m.lim, .slice am nl cm] 30)) := (Below.refl _ _).alloc (Nat.le_refl _) _
  have hnw := blk_new v7 (.cells #[.string m.nm, .int .u8 m.ro, .bool m.su, .int .i64 m.lim, .slice am nl cm] 30)
  obtain ⟨XM, hX⟩ : ∃ X, X = v7.heap.size := ⟨_, rfl⟩
  have B7 := Lib.hid (bt (bt B6.out hb (Nat.le_refl _)) hal (Nat.le_refl _))
  have S_7 := Lib.hid (blk_keep (blk_keep S_6.out hb) hal)
  have O_7 := Lib.hid (blk_keep (blk_keep O_6.out hb) hal)
  have hs_7 := Lib.hid ((hs_6.out.below hb).below hal)
  have own_7 := Lib.hid ((own_6.out.below hb).below hal)
  have OWN_7 := Lib.hid (blk_keep (blk_keep OWN_6.out hb) hal)
  have ya_7 := Lib.hid ((ya_6.out.below hb).below hal)
  have A_7 := Lib.hid (blk_keep (blk_keep A_6.out hb) hal)
  have tb_7 := Lib.hid ((tb_6.out.below hb).below hal)
  have Q_7 := Lib.hid (blk_keep (blk_keep Q_6.out hb) hal)
  have ma_7 := Lib.hid ((hM6.lower' hAle).below hal)
  rw [← hX] at hnw
  have M_7 := Lib.hid hnw
  clear hb hb0 B6 S_6 O_6 hs_6 own_6 OWN_6 ya_6 A_6 tb_6 Q_6 hM6 hAle
  go_wp2_with fail
  clear ld0 ll0 ld1 ll1
  have HAM := Lib.hid (show XA < XM by rw [hX]; exact hAM)
  clear hAM
  rw [← hX]
  clear hX
  clear hal hnw
  generalize v7.alloc _ = w7 at B7 S_7 O_7 hs_7 own_7 OWN_7 ya_7 A_7 tb_7 Q_7 ma_7 M_7 ⊢
  refine (s_rfind a c n ms o.nm m nl is w7 HFM.out HN.out HNL.out (by omega) hs_7.out).mono ?_
  rintro e v8 ⟨an, cn, rfl, hN6, hb⟩
  have hb0 := hb
  have ld0 := cell_of (blk_keep OWN_7.out hb) 0 _ rfl
  have ll0 := blk_lt (blk_keep OWN_7.out hb)
  have ld1 := cell_of (blk_keep O_7.out hb) 1 _ rfl
  have ll1 := blk_lt (blk_keep O_7.out hb)
  have hal : Below v8.heap.size v8 (v8.alloc (.cells #[.string m.nm, .int .u8 m.ro, .bool m.su, .int .i64 m.lim, .slice an nl cn] 30)) := (Below.refl _ _).alloc (Nat.le_refl _) _
  have hnw := blk_new v8 (.cells #[.string m.nm, .int .u8 m.ro, .bool m.su, .int .i64 m.lim, .slice an nl cn] 30)
  obtain ⟨XN, hX⟩ : ∃ X, X = v8.heap.size := ⟨_, rfl⟩
  have B8 := Lib.hid (bt (bt B7.out hb (Nat.le_refl _)) hal (Nat.le_refl _))
  have S_8 := Lib.hid (blk_keep (blk_keep S_7.out hb) hal)
  have O_8 := Lib.hid (blk_keep (blk_keep O_7.out hb) hal)
  have hs_8 := Lib.hid ((hs_7.out.below hb).below hal)
  have own_8 := Lib.hid ((own_7.out.below hb).below hal)
  have OWN_8 := Lib.hid (blk_keep (blk_keep OWN_7.out hb) hal)
  have ya_8 := Lib.hid ((ya_7.out.below hb).below hal)
  have A_8 := Lib.hid (blk_keep (blk_keep A_7.out hb) hal)
  have tb_8 := Lib.hid ((tb_7.out.below hb).below hal)
  have Q_8 := Lib.hid (blk_keep (blk_keep Q_7.out hb) hal)
  have ma_8 := Lib.hid ((ma_7.out.below hb).below hal)
  have M_8 := Lib.hid (blk_keep (blk_keep M_7.out hb) hal)
  have na_8 := Lib.hid ((hN6).below hal)
  rw [← hX] at hnw
  have N_8 := Lib.hid hnw
  clear hb hb0 B7 S_7 O_7 hs_7 own_7 OWN_7 ya_7 A_7 tb_7 Q_7 ma_7 M_7 hN6
  go_wp2_with fail
  clear ld0 ll0 ld1 ll1
  rw [← hX]
  clear hX
  clear hal hnw
  generalize v8.alloc _ = w8 at B8 S_8 O_8 hs_8 own_8 OWN_8 ya_8 A_8 tb_8 Q_8 ma_8 M_8 na_8 N_8 ⊢
  obtain ⟨x, hx⟩ : ∃ m, m = (expoF ms o.nm).1 := ⟨_, rfl⟩
  obtain ⟨y, hy⟩ : ∃ b, b = (expoF ms o.nm).2 := ⟨_, rfl⟩
  have HEX := Lib.hid (show expoF ms o.nm = (x, y) by rw [hx, hy])
  clear hx hy
  refine (s_expo a3 c3 n ms o.nm x y w8 HEX.out HN.out (by omega) HOK.out own_8.out).mono ?_
  rintro e v9 ⟨rfl, hb⟩
  have hb0 := hb
  have ld0 := cell_of (blk_keep S_8.out hb) 0 _ rfl
  have ll0 := blk_lt (blk_keep S_8.out hb)
  have ld1 := cell_of (blk_keep O_8.out hb) 1 _ rfl
  have ll1 := blk_lt (blk_keep O_8.out hb)
  have B9 := Lib.hid (bt B8.out hb (Nat.le_refl _))
  have S_9 := Lib.hid (blk_keep S_8.out hb)
  have O_9 := Lib.hid (blk_keep O_8.out hb)
  have hs_9 := Lib.hid (hs_8.out.below hb)
  have own_9 := Lib.hid (own_8.out.below hb)
  have OWN_9 := Lib.hid (blk_keep OWN_8.out hb)
  have ya_9 := Lib.hid (ya_8.out.below hb)
  have A_9 := Lib.hid (blk_keep A_8.out hb)
  have tb_9 := Lib.hid (tb_8.out.below hb)
  have Q_9 := Lib.hid (blk_keep Q_8.out hb)
  have ma_9 := Lib.hid (ma_8.out.below hb)
  have M_9 := Lib.hid (blk_keep M_8.out hb)
  have na_9 := Lib.hid (na_8.out.below hb)
  have N_9 := Lib.hid (blk_keep N_8.out hb)
  clear hb hb0 B8 S_8 O_8 hs_8 own_8 OWN_8 ya_8 A_8 tb_8 Q_8 ma_8 M_8 na_8 N_8 
  go_wp2_with fail
  clear ld0 ll0 ld1 ll1
  refine (s_rexpo a c n ms o.nm x y v9 HEX.out HN.out (by omega) HOK.out hs_9.out).mono ?_
  rintro e v10 ⟨rfl, hb⟩
  have hb0 := hb
  have B10 := Lib.hid (bt B9.out hb (Nat.le_refl _))
  have S_10 := Lib.hid (blk_keep S_9.out hb)
  have O_10 := Lib.hid (blk_keep O_9.out hb)
  have hs_10 := Lib.hid (hs_9.out.below hb)
  have own_10 := Lib.hid (own_9.out.below hb)
  have OWN_10 := Lib.hid (blk_keep OWN_9.out hb)
  have ya_10 := Lib.hid (ya_9.out.below hb)
  have A_10 := Lib.hid (blk_keep A_9.out hb)
  have tb_10 := Lib.hid (tb_9.out.below hb)
  have Q_10 := Lib.hid (blk_keep Q_9.out hb)
  have ma_10 := Lib.hid (ma_9.out.below hb)
  have M_10 := Lib.hid (blk_keep M_9.out hb)
  have na_10 := Lib.hid (na_9.out.below hb)
  have N_10 := Lib.hid (blk_keep N_9.out hb)
  clear hb hb0 B9 S_9 O_9 hs_9 own_9 OWN_9 ya_9 A_9 tb_9 Q_9 ma_9 M_9 na_9 N_9 
  go_upto_region 11 with fail
  have HK := Lib.hid (show ∀ wx, Below v10.heap.size v10 wx → wx.cell? ⟨XO, 0, none⟩ = some (.slice a3 n c3) ∧ wx.cell? ⟨W.heap.size, 0, none⟩ = some (.slice a n c) ∧ wx.cell? ⟨XA, 0, none⟩ = some (.slice a4 n' c4) ∧ wx.cell? ⟨XQ, 0, none⟩ = some (.slice a5 n' c5) ∧ wx.cell? ⟨XM, 0, none⟩ = some (.string m.nm) ∧ wx.cell? ⟨XM, 1, none⟩ = some (.int .u8 m.ro) ∧ wx.cell? ⟨XM, 2, none⟩ = some (.bool m.su) ∧ wx.cell? ⟨XM, 3, none⟩ = some (.int .i64 m.lim) ∧ wx.cell? ⟨XM, 4, none⟩ = some (.slice am nl cm) ∧ wx.cell? ⟨XN, 0, none⟩ = some (.string m.nm) ∧ wx.cell? ⟨XN, 1, none⟩ = some (.int .u8 m.ro) ∧ wx.cell? ⟨XN, 2, none⟩ = some (.bool m.su) ∧ wx.cell? ⟨XN, 3, none⟩ = some (.int .i64 m.lim) ∧ wx.cell? ⟨XN, 4, none⟩ = some (.slice an nl cn) from fun wx h => ⟨cell_of (blk_keep OWN_10.out h) 0 _ rfl, cell_of (blk_keep S_10.out h) 0 _ rfl, cell_of (blk_keep A_10.out h) 0 _ rfl, cell_of (blk_keep Q_10.out h) 0 _ rfl, cell_of (blk_keep M_10.out h) 0 _ rfl, cell_of (blk_keep M_10.out h) 1 _ rfl, cell_of (blk_keep M_10.out h) 2 _ rfl, cell_of (blk_keep M_10.out h) 3 _ rfl, cell_of (blk_keep M_10.out h) 4 _ rfl, cell_of (blk_keep N_10.out h) 0 _ rfl, cell_of (blk_keep N_10.out h) 1 _ rfl, cell_of (blk_keep N_10.out h) 2 _ rfl, cell_of (blk_keep N_10.out h) 3 _ rfl, cell_of (blk_keep N_10.out h) 4 _ rfl⟩)
  obtain ⟨ck, hck⟩ : ∃ e, e = chk ms := ⟨_, rfl⟩
  have HCK := Lib.hid hck.symm
  clear hck
  have Q1 := Lib.hid (fun wx (h : Below v10.heap.size v10 wx) => s_same a4 a5 c4 c5 n' n' ms' ms' true wx (decide_eq_true rfl) HN'.out HN'.out (by omega) HLM.out.2 ⟨ys, HYS.out, (ya_10.out.below h).at⟩ (tb_10.out.below h))
  have Q2 := Lib.hid (fun wx (h : Below v10.heap.size v10 wx) => s_samem am an cm cn nl nl m m true wx (decide_eq_true rfl) HNL.out HNL.out hnlb ((ma_10.out.below h).sl acc_len).1 (na_10.out.below h))
  have Q3 := Lib.hid (fun wx (h : Below v10.heap.size v10 wx) => s_check a3 c3 n ms ck wx HCK.out HN.out (by omega) HOK.out (own_10.out.below h))
  have Q4 := Lib.hid (fun wx (h : Below v10.heap.size v10 wx) => s_rcheck a c n ms ck wx HCK.out HN.out (by omega) HOK.out (hs_10.out.below h))
  have e1 : (er == er) = true := by simp
  have e2 : (is == is) = true := by simp
  have e3 : (x == x) = true := by simp
  have e4 : (y == y) = true := by simp
  have e5 : (ck == ck) = true := by simp
  have kk : Below v10.heap.size v10 v10 := Below.refl _ _
  have kd := kk.drew
  go_cut [19] from 70 to 104 (fun p wf => p = .bool true ∧ Hid (Below v10.heap.size v10 wf))
  case first =>
    go_region_held3 (fun wx => wx.cell? ⟨XO, 0, none⟩ = some (.slice a3 n c3) ∧ wx.cell? ⟨W.heap.size, 0, none⟩ = some (.slice a n c) ∧ wx.cell? ⟨XA, 0, none⟩ = some (.slice a4 n' c4) ∧ wx.cell? ⟨XQ, 0, none⟩ = some (.slice a5 n' c5) ∧ wx.cell? ⟨XM, 0, none⟩ = some (.string m.nm) ∧ wx.cell? ⟨XM, 1, none⟩ = some (.int .u8 m.ro) ∧ wx.cell? ⟨XM, 2, none⟩ = some (.bool m.su) ∧ wx.cell? ⟨XM, 3, none⟩ = some (.int .i64 m.lim) ∧ wx.cell? ⟨XM, 4, none⟩ = some (.slice am nl cm) ∧ wx.cell? ⟨XN, 0, none⟩ = some (.string m.nm) ∧ wx.cell? ⟨XN, 1, none⟩ = some (.int .u8 m.ro) ∧ wx.cell? ⟨XN, 2, none⟩ = some (.bool m.su) ∧ wx.cell? ⟨XN, 3, none⟩ = some (.int .i64 m.lim) ∧ wx.cell? ⟨XN, 4, none⟩ = some (.slice an nl cn))
      (first | with_reducible exact HK.out _ (by assumption) | with_reducible exact HK.out _ (Below.drew (by assumption)) | go_keep)
      (first
        | (go_at_call 27; refine (Q1.out _ (by first | assumption | exact Below.drew (by assumption))).mono ?_; rintro e wz0 ⟨rfl, hz0⟩; have kz0 : Below v10.heap.size v10 wz0 := bt (by first | assumption | exact Below.drew (by assumption)) hz0 (Nat.le_refl _))
        | (go_at_call 31; refine (Q2.out _ (by first | assumption | exact Below.drew (by assumption))).mono ?_; rintro e wz1 ⟨rfl, hz1⟩; have kz1 : Below v10.heap.size v10 wz1 := bt (by first | assumption | exact Below.drew (by assumption)) hz1 (Nat.le_refl _))
        | (go_at_call 22; refine (Q3.out _ (by first | assumption | exact Below.drew (by assumption))).mono ?_; rintro e wz2 ⟨rfl, hz2⟩; have kz2 : Below v10.heap.size v10 wz2 := bt (by first | assumption | exact Below.drew (by assumption)) hz2 (Nat.le_refl _))
        | (go_at_call 34; refine (Q4.out _ (by first | assumption | exact Below.drew (by assumption))).mono ?_; rintro e wz3 ⟨rfl, hz3⟩; have kz3 : Below v10.heap.size v10 wz3 := bt (by first | assumption | exact Below.drew (by assumption)) hz3 (Nat.le_refl _)))
    all_goals
      go_wp2
      go_meet
      case rel => exact ⟨rfl, Lib.hid (by first | assumption | exact Below.drew (by assumption))⟩
  case rest =>
    obtain ⟨rfl, HBX⟩ := hcut
    have hb := HBX.out
    clear HK Q1 Q2 Q3 Q4 e1 e2 e3 e4 e5 kk kd
    have B11 := Lib.hid (bt B10.out hb (Nat.le_refl _))
    have S_11 := Lib.hid (blk_keep S_10.out hb)
    have O_11 := Lib.hid (blk_keep O_10.out hb)
    have hs_11 := Lib.hid (hs_10.out.below hb)
    have own_11 := Lib.hid (own_10.out.below hb)
    have OWN_11 := Lib.hid (blk_keep OWN_10.out hb)
    have ya_11 := Lib.hid (ya_10.out.below hb)
    have A_11 := Lib.hid (blk_keep A_10.out hb)
    have tb_11 := Lib.hid (tb_10.out.below hb)
    have Q_11 := Lib.hid (blk_keep Q_10.out hb)
    have ma_11 := Lib.hid (ma_10.out.below hb)
    have M_11 := Lib.hid (blk_keep M_10.out hb)
    have na_11 := Lib.hid (na_10.out.below hb)
    have N_11 := Lib.hid (blk_keep N_10.out hb)
    clear hb HBX B10 S_10 O_10 hs_10 own_10 OWN_10 ya_10 A_10 tb_10 Q_10 ma_10 M_10 na_10 N_10
    have la := cell_of A_11.out 0 _ rfl
    have ll := blk_lt A_11.out
    go_wp2_with fail
    clear la ll
    refine (touch_any (B := w3.heap.size) (E := XA) a4 c4 n' ys (by rw [← HN'.out, ← HYS.out, fst_len]) (by omega) (fun z hz => HLM.out.2 _ (by rw [← HYS.out]; exact List.mem_map.2 ⟨z, hz, rfl⟩)) B11.out.size ya_11.out HIY.out).mono ?_
    rintro e wt ⟨rfl, hF1⟩
    have HF1 := Lib.hid hF1
    have BT := Lib.hid (B11.out.trans hF1.1)
    have MT := Lib.hid (show wt.heap[XM]? = some (.cells #[.string m.nm, .int .u8 m.ro, .bool m.su, .int .i64 m.lim, .slice am nl cm] 30 (0, 0)) from (hF1.2 XM (Nat.le_of_lt HAM.out) (blk_lt M_11.out)).trans M_11.out)
    have MAT := Lib.hid (own_stay ma_11.out (fun b hb => hF1.2 b (ma_11.out.lt b hb).1 (ma_11.out.lt b hb).2))
    clear hF1
    have lm0 := cell_of MT.out 0 _ rfl
    have lm1 := cell_of MT.out 1 _ rfl
    have lm2 := cell_of MT.out 2 _ rfl
    have lm3 := cell_of MT.out 3 _ rfl
    have lm4 := cell_of MT.out 4 _ rfl
    have ll := blk_lt MT.out
    go_wp2_with fail
    clear lm0 lm1 lm2 lm3 lm4 ll
    have HXW := Lib.hid (show XA ≤ wt.heap.size from by have := blk_lt MT.out; have := HAM.out; omega)
    refine (touch_any (B := XA) (E := wt.heap.size + 1) (some ⟨wt.heap.size, 0, none⟩) 1 1 [(m, (am, cm))] rfl (by omega) (fun z hz => by rw [List.mem_singleton] at hz; subst hz; exact HNB.out) (by have := HXW.out; simp; omega) (own_one HNL.out HXW.out MAT.out) (in_one HNL.out MAT.out)).mono ?_
    rintro e w9 ⟨rfl, hF2⟩
    have B9 := Lib.hid (BT.out.trans ((Below.refl _ wt).alloc BT.out.size _ |>.trans (hF2.1.mono HVX.out)))
    have S9 := Lib.hid (blk_keep HS0.out B9.out)
    have O9 := Lib.hid (blk_keep HOWB.out B9.out)
    have hs9 := Lib.hid (HHS0.out.below B9.out)
    have ow9 := Lib.hid (HOW0.out.below B9.out)
    have ls := cell_of S9.out 0 _ rfl
    have lo := cell_of O9.out 0 _ rfl
    go_wp2_with fail
    refine (s_same a3 a c3 c n n ms ms true w9 (decide_eq_true rfl) HN.out HN.out (by omega) HLN.out ow9.out hs9.out).mono ?_
    rintro e w10 ⟨rfl, hb⟩
    have BE := Lib.hid (bt HBW.out (bt B9.out hb (Nat.le_refl _)) (Nat.le_refl _))
    clear hF2 hb ls lo
    go_wp2_with fail
    go_ret
    exact ⟨rfl, BE.out⟩
end Go.Proofs.Ytoemjpfoddeinaa.Mb
