/-
  Member: the walk of Join of the program.
-/
import Derived.Test.YtoemjpfoddeinaaMbN
namespace Go.Proofs.Ytoemjpfoddeinaa.Mb
open Go.RowKit Go.Proofs.Ytoemjpfoddeinaa Go.Proofs.Ytoemjpfoddeinaa.Ls Go.Proofs.Ytoemjpfoddeinaa.Kb
open Go.Proofs.Ytoemjpfoddeinaa.Nm hiding ret_bool ret_int

theorem fst_ins (xs : List P) (i : Nat) (y : P) : fst (xs.take i ++ y :: xs.drop i) = (fst xs).take i ++ y.1 :: (fst xs).drop i := by simp [fst, List.map_take, List.map_drop]
/-- a member without accounts more -/
theorem Rows.ins {w : World} {B i : Nat} {xs : List P} {y : P} (h : Rows w B xs) (hy : y.1.ac = []) (ha : y.2 = (none, 0)) : Rows w B (xs.take i ++ y :: xs.drop i) := by
  have hs : sl y = .slice none 0 0 := by unfold sl; rw [hy, ha]; rfl
  have hn : (sl y).ownBlock = none := by rw [hs]; rfl
  have hx : xs.take i ++ xs.drop i = xs := List.take_append_drop i xs
  have hp := h.ne
  rw [← hx, List.pairwise_append] at hp
  refine ⟨fun x hxm => ?_, ?_⟩
  · rcases List.mem_append.1 hxm with hm | hm
    · exact h.own x (List.mem_of_mem_take hm)
    · rcases List.mem_cons.1 hm with rfl | hm
      · rw [hs, hy]; exact OwnL.nil _ _ _ _ _
      · exact h.own x (List.mem_of_mem_drop hm)
  · rw [List.pairwise_append, List.pairwise_cons]
    refine ⟨hp.1, ⟨fun z _ b hb => (by rw [hn] at hb; cases hb), hp.2.1⟩, fun x hxm z hz b hb => ?_⟩
    rcases List.mem_cons.1 hz with rfl | hz
    · rw [hn]; intro e; cases e
    · exact hp.2.2 x hxm z hz b hb

theorem ok_new {t : ByteArray} {ro lim : Int} (ht : t.size ≤ maxLen) (hr : 0 ≤ ro ∧ ro ≤ 255) (hl : i64 lim) : OkM (newM t ro lim) := ⟨ht, hr, hl, by simp [newM], fun a ha => by cases ha⟩

/-- behind Insert -/
theorem join_end {w w4 wy w5 : World} {A a5 : Option Addr} {c' c5 n i : Nat} {ys : List P} {y : P} (hO : OwnM w4 w.heap.size A c' ys) (hX : w4.heap[w.heap.size]? = some (.cells #[.slice A ys.length c'] 24 (0, 0)))
    (hR : w4.heap[w.heap.size + 1]? = some (.cells #[.slice none 0 0] 24 (0, 0))) (hb4 : Below w.heap.size w w4) (hy : y.1.ac = []) (ha : y.2 = (none, 0))
    (hwy : Below w4.heap.size w4 wy) (hn : ys.length + 1 = n) (ho : OwnL w5 w.heap.size 30 5 mec (.slice a5 (ys.length + 1) c5) (ys.take i ++ y :: ys.drop i)) (hg : wy.grownBy w5 (Value.slice A ys.length c').ownBlock) :
    w5.heap[w.heap.size]? = some (.cells #[.slice A ys.length c'] 24 (0, 0)) ∧
    (w5.setCell ⟨w.heap.size, 0, none⟩ (.slice a5 n c5)).heap[w.heap.size]? = some (.cells #[.slice a5 n c5] 24 (0, 0)) ∧
    (w5.setCell ⟨w.heap.size, 0, none⟩ (.slice a5 n c5)).heap[w.heap.size + 1]? = some (.cells #[.slice none 0 0] 24 (0, 0)) ∧
    OwnM (w5.setCell ⟨w.heap.size, 0, none⟩ (.slice a5 n c5)) w.heap.size a5 c5 (ys.take i ++ y :: ys.drop i) ∧ Below w.heap.size w (w5.setCell ⟨w.heap.size, 0, none⟩ (.slice a5 n c5)) := by
  have hOy := hO.below hwy
  have h5 := box_grown hOy.ms hg (blk_keep hX hwy)
  have hr5 := box_grown hOy.ms hg (blk_keep hR hwy)
  have hrows := rows_grown hOy.ms hg (hOy.rows.ins (i := i) hy ha)
  have hl : (ys.take i ++ y :: ys.drop i).length = ys.length + 1 := by rw [List.length_append, List.length_take, List.length_cons, List.length_drop]; omega
  have hb5 : Below w.heap.size w w5 := (bt hb4 hwy (Nat.le_refl _)).grown hg (Nat.le_trans hb4.size hwy.size) (fun k hk => (hO.ms.lt k hk).1)
  refine ⟨h5, set1 h5 _, set_other hr5 (by omega) _, OwnM.far ⟨by rw [hl]; exact ho, hrows⟩ h5 _, hb5.setCell (p := ⟨w.heap.size, 0, none⟩) (Nat.le_refl _) _⟩

set_option maxRecDepth 100000 in
set_option maxHeartbeats 8000000 in
theorem join_any (a : Option Addr) (c : Nat) (xs : List P) (t : ByteArray) (ro lim : Int) (ht : t.size ≤ maxLen) (hro : 0 ≤ ro ∧ ro ≤ 255) (hlim : i64 lim) (w : World) (hn : xs.length ≤ 1000) (hZ : ∀ x ∈ xs, OkM x.1) (hA : AtM w a xs) :
    Calls Try.prog 14 #[.agg #[.slice a xs.length c], .string t, .int .u8 ro, .int .i64 lim] w (RPost (joinF (fst xs) t ro lim) w) := by
  have HA := Lib.hid hA
  have HP := Lib.hid (fun wx (h : AtM wx a xs) => place_any a c xs t wx hn hZ h)
  have HCP := Lib.hid (fun wx (h : AtM wx a xs) => copied_any a c xs wx hn (fun x hx => (hZ x hx).len) h)
  have HV := Lib.hid (fun wx => valid_any (newM t ro lim, (none, 0)) wx (ok_new ht hro hlim) (AtL.nil _ _ _ _))
  have hbo : Below w.heap.size w ((w.alloc (.cells #[.slice a xs.length c] 24)).alloc (.cells #[.slice none 0 0] 24)) := ((Below.refl _ _).alloc (Nat.le_refl _) _).alloc (by simp) _
  have HX := Lib.hid (blk_two w (.cells #[.slice a xs.length c] 24) (.cells #[.slice none 0 0] 24))
  have HZ := Lib.hid hZ
  obtain ⟨r, hr⟩ : ∃ r, r = joinF (fst xs) t ro lim := ⟨_, rfl⟩
  rw [← hr]
  have HR := Lib.hid hr
  clear hr hA hZ
  rcases chk_cases (fst xs) with hc | hc
  case inr =>
    have HR2 := Lib.hid (show r = ([], 8) by rw [HR.out]; unfold joinF; rw [if_neg (by rw [hc]; decide)])
    have he : plE (fst xs) t = 8 := by unfold plE; rw [if_neg (by rw [hc]; decide)]
    rw [he] at HP
    generalize plI (fst xs) t = p0 at HP
    clear hc he HR
    go_enter Try.func14, Try.ntmps14
    go_wp2_with fail
    generalize (w.alloc _).alloc _ = wo at hbo HX ⊢
    refine (HP.out wo (HA.out.below hbo)).mono ?_
    rintro e w1 ⟨rfl, hb1⟩
    have hy1 := blk_keep HX.out.2 hb1
    have y0 := cell_of hy1 0 _ rfl
    have yf := frozen_of hy1 0
    have c1 := bt hbo hb1 (Nat.le_refl _)
    have HY1 := Lib.hid hy1
    clear HX hb1 hbo hy1
    go_wp2_with fail
    have h4 := set1 HY1.out (.slice none 0 0)
    have r0 := cell_of h4 0 _ rfl
    refine bodyPost_ret (v := .tuple #[.agg #[.slice none 0 0], .int .i64 8]) (by simp [results, Try.results14, go_sem, r0]) rfl ⟨none, 0, [], by rw [HR2.out]; rfl, by rw [HR2.out]; rfl, OwnM.nil _ _, c1.setCell (p := ⟨w.heap.size + 1, 0, none⟩) (Nat.le_succ _) _⟩
  case inl =>
    obtain ⟨hh, hhh⟩ : ∃ h, h = has (nms (fst xs)) t := ⟨_, rfl⟩
    obtain ⟨p, hp⟩ : ∃ p, p = pos (nms (fst xs)) t := ⟨_, rfl⟩
    have he : plE (fst xs) t = if hh then 0 else 6 := by unfold plE; rw [if_pos hc, hhh]
    have HR2 := Lib.hid (show r = (if val (newM t ro lim) then (if hh then ([], 24) else if xs.length = 64 then ([], 22) else ((fst xs).take p ++ newM t ro lim :: (fst xs).drop p, 0)) else ([], 2)) by rw [HR.out]; unfold joinF; rw [if_pos hc, hhh, hp, fst_len])
    have HF := Lib.hid (fun wx (h : AtM wx a xs) => findm a c xs t wx hn h.ms (chk_srt hc).2.1)
    have hpl : p ≤ xs.length := by
      have := pos_le (nms (fst xs)) t
      rw [← hp] at this
      simpa [nms, fst] using this
    have hl64 : xs.length ≤ 64 := by
      have := (chk_srt hc).1
      rw [fst_len] at this
      exact this
    rw [← hp, ← hhh] at HF
    rw [he] at HP
    generalize plI (fst xs) t = p0 at HP
    generalize val (newM t ro lim) = v at HV HR2
    clear hc he hp hhh HR
    have HMB := Lib.hid (fun wx : World => blk_new wx (.cells #[.string t, .int .u8 ro, .bool false, .int .i64 lim, .slice none 0 0] 30))
    have pre : ∀ (e0 : Int), (e0 == 8) = false → True := fun _ _ => trivial
    clear pre
    cases hh
    case true =>
      have HE : Hid (∃ E : Int, r = ([], E) ∧ (v = false ∧ E = 2 ∨ v = true ∧ E = 24)) := by cases v <;> exact Lib.hid ⟨_, HR2.out, by simp⟩
      obtain ⟨E, hE, hvE⟩ := HE.out
      have HR3 := Lib.hid hE
      clear HE HR2 hE HCP HF hpl hl64
      go_enter Try.func14, Try.ntmps14
      go_wp2_with fail
      generalize (w.alloc _).alloc _ = wo at hbo HX ⊢
      refine (HP.out wo (HA.out.below hbo)).mono ?_
      rintro e w1 ⟨rfl, hb1⟩
      have c1 := bt hbo hb1 (Nat.le_refl _)
      have HY1 := Lib.hid (blk_keep HX.out.2 hb1)
      have k1 : Below w1.heap.size w1 (w1.alloc (.cells #[.string t, .int .u8 ro, .bool false, .int .i64 lim, .slice none 0 0] 30)) := (Below.refl _ _).alloc (Nat.le_refl _) _
      clear hbo HX hb1 HP
      go_wp2_with fail
      generalize w1.alloc _ = w2 at k1 ⊢
      have HY2 := Lib.hid (blk_keep HY1.out k1)
      have c2 := bt c1 k1 (Nat.le_refl _)
      refine (HV.out w2).mono ?_
      rintro e w3 ⟨rfl, hb3⟩
      have HY3 := Lib.hid (blk_keep HY2.out hb3)
      have c3 := bt c2 hb3 (Nat.le_refl _)
      have y0 := cell_of HY3.out 0 _ rfl
      have yf := frozen_of HY3.out 0
      clear HV HY1 HY2 c1 c2 k1 hb3 HA HMB
      rcases hvE with ⟨rfl, rfl⟩ | ⟨rfl, rfl⟩
      all_goals
        go_wp2_with fail
        have h4 := set1 HY3.out (.slice none 0 0)
        have r0 := cell_of h4 0 _ rfl
        first
          | exact bodyPost_ret (v := .tuple #[.agg #[.slice none 0 0], .int .i64 2]) (by simp [results, Try.results14, go_sem, r0]) rfl ⟨none, 0, [], by rw [HR3.out]; rfl, by rw [HR3.out]; rfl, OwnM.nil _ _, c3.setCell (p := ⟨w.heap.size + 1, 0, none⟩) (Nat.le_succ _) _⟩
          | exact bodyPost_ret (v := .tuple #[.agg #[.slice none 0 0], .int .i64 24]) (by simp [results, Try.results14, go_sem, r0]) rfl ⟨none, 0, [], by rw [HR3.out]; rfl, by rw [HR3.out]; rfl, OwnM.nil _ _, c3.setCell (p := ⟨w.heap.size + 1, 0, none⟩) (Nat.le_succ _) _⟩
    case false =>
      cases v
      case false =>
        have HR3 := Lib.hid (show r = ([], 2) by rw [HR2.out]; rfl)
        clear HR2 HCP HF hpl hl64
        go_enter Try.func14, Try.ntmps14
        go_wp2_with fail
        generalize (w.alloc _).alloc _ = wo at hbo HX ⊢
        refine (HP.out wo (HA.out.below hbo)).mono ?_
        rintro e w1 ⟨rfl, hb1⟩
        have c1 := bt hbo hb1 (Nat.le_refl _)
        have HY1 := Lib.hid (blk_keep HX.out.2 hb1)
        have k1 : Below w1.heap.size w1 (w1.alloc (.cells #[.string t, .int .u8 ro, .bool false, .int .i64 lim, .slice none 0 0] 30)) := (Below.refl _ _).alloc (Nat.le_refl _) _
        clear hbo HX hb1 HP
        go_wp2_with fail
        generalize w1.alloc _ = w2 at k1 ⊢
        have HY2 := Lib.hid (blk_keep HY1.out k1)
        have c2 := bt c1 k1 (Nat.le_refl _)
        refine (HV.out w2).mono ?_
        rintro e w3 ⟨rfl, hb3⟩
        have HY3 := Lib.hid (blk_keep HY2.out hb3)
        have c3 := bt c2 hb3 (Nat.le_refl _)
        have y0 := cell_of HY3.out 0 _ rfl
        have yf := frozen_of HY3.out 0
        clear HV HY1 HY2 c1 c2 k1 hb3 HA HMB
        go_wp2_with fail
        have h4 := set1 HY3.out (.slice none 0 0)
        have r0 := cell_of h4 0 _ rfl
        exact bodyPost_ret (v := .tuple #[.agg #[.slice none 0 0], .int .i64 2]) (by simp [results, Try.results14, go_sem, r0]) rfl ⟨none, 0, [], by rw [HR3.out]; rfl, by rw [HR3.out]; rfl, OwnM.nil _ _, c3.setCell (p := ⟨w.heap.size + 1, 0, none⟩) (Nat.le_succ _) _⟩
      case true =>
        have HR3 := Lib.hid (show r = (if xs.length = 64 then ([], 22) else ((fst xs).take p ++ newM t ro lim :: (fst xs).drop p, 0)) by rw [HR2.out]; rfl)
        clear HR2
        go_enter Try.func14, Try.ntmps14
        go_wp2_with fail
        generalize (w.alloc _).alloc _ = wo at hbo HX ⊢
        refine (HP.out wo (HA.out.below hbo)).mono ?_
        rintro e w1 ⟨rfl, hb1⟩
        have c1 := bt hbo hb1 (Nat.le_refl _)
        have HX1 := Lib.hid (blk_keep HX.out.1 hb1)
        have HY1 := Lib.hid (blk_keep HX.out.2 hb1)
        have k1 : Below w1.heap.size w1 (w1.alloc (.cells #[.string t, .int .u8 ro, .bool false, .int .i64 lim, .slice none 0 0] 30)) := (Below.refl _ _).alloc (Nat.le_refl _) _
        have HM1 := Lib.hid (HMB.out w1)
        clear hbo HX hb1 HP HMB
        go_wp2_with fail
        generalize w1.alloc _ = w2 at k1 HM1 ⊢
        have HX2 := Lib.hid (blk_keep HX1.out k1)
        have HY2 := Lib.hid (blk_keep HY1.out k1)
        have c2 := bt c1 k1 (Nat.le_refl _)
        have hmb : w.heap.size + 1 < w1.heap.size := blk_lt HY1.out
        have hm2 : w1.heap.size < w2.heap.size := blk_lt HM1.out
        obtain ⟨M, hM⟩ : ∃ M, M = w1.heap.size := ⟨_, rfl⟩
        rw [← hM] at HM1 hmb hm2 ⊢
        refine (HV.out w2).mono ?_
        rintro e w3 ⟨rfl, hb3⟩
        have HX3 := Lib.hid (blk_keep HX2.out hb3)
        have HY3 := Lib.hid (blk_keep HY2.out hb3)
        have HM3 := Lib.hid (blk_keep HM1.out hb3)
        have c3 := bt c2 hb3 (Nat.le_refl _)
        have x3 := cell_of HX3.out 0 _ rfl
        have y3 := cell_of HY3.out 0 _ rfl
        have yf3 := frozen_of HY3.out 0
        clear HV HY1 HY2 HX1 HX2 HM1 c1 c2 k1 hb3 hM hm2
        by_cases h64 : xs.length = 64
        case pos =>
          have HR4 := Lib.hid (show r = ([], 22) by rw [HR3.out, if_pos h64])
          have h64' : ((xs.length : Int) == 64) = true := by rw [h64]; rfl
          go_wp2_with fail
          have h4 := set1 HY3.out (.slice none 0 0)
          have r0 := cell_of h4 0 _ rfl
          exact bodyPost_ret (v := .tuple #[.agg #[.slice none 0 0], .int .i64 22]) (by simp [results, Try.results14, go_sem, r0]) rfl ⟨none, 0, [], by rw [HR4.out]; rfl, by rw [HR4.out]; rfl, OwnM.nil _ _, c3.setCell (p := ⟨w.heap.size + 1, 0, none⟩) (Nat.le_succ _) _⟩
        case neg =>
          have HR4 := Lib.hid (show r = ((fst xs).take p ++ newM t ro lim :: (fst xs).drop p, 0) by rw [HR3.out, if_neg h64])
          have h64' : ((xs.length : Int) == 64) = false := by simp; omega
          clear HR3
          go_wp2_with fail
          refine (HF.out w3 (HA.out.below c3)).mono ?_
          rintro e w4 ⟨rfl, hb4⟩
          have HX4 := Lib.hid (blk_keep HX3.out hb4)
          have HY4 := Lib.hid (blk_keep HY3.out hb4)
          have HM4 := Lib.hid (blk_keep HM3.out hb4)
          have c4 := bt c3 hb4 (Nat.le_refl _)
          have x4 := cell_of HX4.out 0 _ rfl
          have xf4 := frozen_of HX4.out 0
          clear HF HX3 HY3 HM3 c3 x3 y3 yf3 hb4
          go_wp2_with fail
          refine (HCP.out w4 (HA.out.below c4)).mono ?_
          rintro e w5 ⟨a', c', ys, rfl, hys, hO, hb5⟩
          have hyl := len_of_fst hys
          have HX5 := Lib.hid (blk_keep HX4.out hb5)
          have HY5 := Lib.hid (blk_keep HY4.out hb5)
          have HM5 := Lib.hid (blk_keep HM4.out hb5)
          have c5 := bt c4 hb5 (Nat.le_refl _)
          have hO5 := hO.lower c4.size
          have HX6 := Lib.hid (set1 HX5.out (.slice a' xs.length c'))
          have HY6 := Lib.hid (set_other (i := 0) HY5.out (show w.heap.size ≠ w.heap.size + 1 by omega) (.slice a' xs.length c'))
          have HM6 := Lib.hid (set_other (i := 0) HM5.out (show w.heap.size ≠ M by omega) (.slice a' xs.length c'))
          have HO6 := Lib.hid (hO5.far (i := 0) HX5.out (.slice a' xs.length c'))
          have HC6 := Lib.hid (c5.setCell (p := ⟨w.heap.size, 0, none⟩) (Nat.le_refl _) (.slice a' xs.length c'))
          have x5 := cell_of HX5.out 0 _ rfl
          have xf5 := frozen_of HX5.out 0
          have HYS := Lib.hid hys
          clear HX4 HY4 HM4 x4 xf4 hb5 hO hO5 HCP
          go_upto_region 13 with fail
          generalize w5.setCell _ _ = w6 at HX6 HY6 HM6 HO6 HC6 ⊢
          have HX6y := HX6
          rw [← hyl] at HX6y
          have x6 := cell_of HX6.out 0 _ rfl
          have m0 := cell_of HM6.out 0 _ rfl
          have m1 := cell_of HM6.out 1 _ rfl
          have m2 := cell_of HM6.out 2 _ rfl
          have m3 := cell_of HM6.out 3 _ rfl
          have m4 := cell_of HM6.out 4 _ rfl
          have k6 : Below w6.heap.size w6 w6 := Below.refl _ _
          have k6d := k6.drew
          have HMK := Lib.hid (show ∀ wy, Below w6.heap.size w6 wy → wy.cell? ⟨M, 0, none⟩ = some (.string t) ∧ wy.cell? ⟨M, 1, none⟩ = some (.int .u8 ro) ∧ wy.cell? ⟨M, 2, none⟩ = some (.bool false) ∧ wy.cell? ⟨M, 3, none⟩ = some (.int .i64 lim) ∧ wy.cell? ⟨M, 4, none⟩ = some (.slice none 0 0) from fun wy h => ⟨cell_of (blk_keep HM6.out h) 0 _ rfl, cell_of (blk_keep HM6.out h) 1 _ rfl, cell_of (blk_keep HM6.out h) 2 _ rfl, cell_of (blk_keep HM6.out h) 3 _ rfl, cell_of (blk_keep HM6.out h) 4 _ rfl⟩)
          have HIN := Lib.hid (fun wy (h : Below w6.heap.size w6 wy) (hX : wy.heap[w6.heap.size]? = some (.cells #[.string t, .int .u8 ro, .bool false, .int .i64 lim, .slice none 0 0] 30 (0, 0))) => insert_mec a' p c' w.heap.size w6.heap.size ys (newM t ro lim, (none, 0)) _ wy (by omega) (by omega) (by have := h.size; have := HC6.out.size; omega) (HO6.out.below h).ms hX rfl (fun b hb => by have := (HO6.out.ms.lt b hb).2; omega))
          rw [hyl] at HIN
          have HYL := Lib.hid hyl
          clear x5 xf5 hyl
          go_wp2_with fail
          refine (HIN.out _ ((Below.refl _ _).alloc (Nat.le_refl _) _) (blk_new _ _)).mono ?_
          rintro e w7 ⟨a7, c7, rfl, ho7, hg7, hfr7⟩
          have HN := Lib.hid (join_end (y := (newM t ro lim, (none, 0))) (n := xs.length + 1) HO6.out HX6y.out HY6.out HC6.out rfl rfl ((Below.refl _ _).alloc (Nat.le_refl _) _) (by rw [HYL.out]) (by rw [HYL.out]; exact ho7) (by rw [HYL.out]; exact hg7))
          have x7 := cell_of HN.out.1 0 _ rfl
          have xf7 := frozen_of HN.out.1 0
          have x8 := cell_of HN.out.2.1 0 _ rfl
          have y8 := cell_of HN.out.2.2.1 0 _ rfl
          have yf8 := frozen_of HN.out.2.2.1 0
          clear ho7 hg7 hfr7 x6 m0 m1 m2 m3 m4 k6 k6d HMK HIN
          go_wp2_with fail
          have h9 := set1 HN.out.2.2.1 (.slice a7 (xs.length + 1) c7)
          have r0 := cell_of h9 0 _ rfl
          have hl9 : (ys.take p ++ ((newM t ro lim, (none, 0)) : P) :: ys.drop p).length = xs.length + 1 := by rw [List.length_append, List.length_take, List.length_cons, List.length_drop, HYL.out]; omega
          refine bodyPost_ret (v := .tuple #[.agg #[.slice a7 (xs.length + 1) c7], .int .i64 0]) (by simp [results, Try.results14, go_sem, r0]) rfl ⟨a7, c7, ys.take p ++ (newM t ro lim, (none, 0)) :: ys.drop p, by rw [HR4.out, hl9], by rw [HR4.out, fst_ins, HYS.out], HN.out.2.2.2.1.far (i := 0) HN.out.2.2.1 _, HN.out.2.2.2.2.setCell (p := ⟨w.heap.size + 1, 0, none⟩) (Nat.le_succ _) _⟩
end Go.Proofs.Ytoemjpfoddeinaa.Mb
