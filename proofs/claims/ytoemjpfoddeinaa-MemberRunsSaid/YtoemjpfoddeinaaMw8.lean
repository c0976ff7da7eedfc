/-
  Member: the walk of MemberRuns.
-/
import Derived.Test.YtoemjpfoddeinaaMwL
import Derived.Test.YtoemjpfoddeinaaMbV
namespace Go.Proofs.Ytoemjpfoddeinaa.Mb
open Go.RowKit Go.Proofs.Ytoemjpfoddeinaa Go.Proofs.Ytoemjpfoddeinaa.Ls Go.Proofs.Ytoemjpfoddeinaa.Kb
open Go.Proofs.Ytoemjpfoddeinaa.Nm hiding ret_bool ret_int

def o0 : Opp := ⟨0, ⟨#[]⟩, ⟨#[]⟩, ⟨#[]⟩, 0, false, 0⟩
def go_ (L : List Opp) (i : Nat) : Opp := L.getD i o0
theorem go_mem (L : List Opp) (i : Nat) (h : i < L.length) : go_ L i ∈ L := by unfold go_; rw [List.getD_eq_getElem?_getD, List.getElem?_eq_getElem h]; exact List.getElem_mem _
theorem at_o {w : World} {a : Option Addr} {L : List Opp} (h : AtL w 7 opc a L) (i : Nat) (hi : i < L.length) : ∃ b off, a = some ⟨b, off, none⟩ ∧ w.cell? ⟨b, off + i * 7, none⟩ = some (.int .u8 (go_ L i).kd) ∧ w.cell? ⟨b, off + i * 7 + 1, none⟩ = some (.string (go_ L i).nm) ∧
    w.cell? ⟨b, off + i * 7 + 2, none⟩ = some (.string (go_ L i).fr) ∧ w.cell? ⟨b, off + i * 7 + 3, none⟩ = some (.string (go_ L i).tt) ∧ w.cell? ⟨b, off + i * 7 + 4, none⟩ = some (.int .u8 (go_ L i).ro) ∧ w.cell? ⟨b, off + i * 7 + 5, none⟩ = some (.bool (go_ L i).is) ∧ w.cell? ⟨b, off + i * 7 + 6, none⟩ = some (.int .i64 (go_ L i).am) := by
  obtain ⟨b, off, ha, hc⟩ := h i L[i] (by rw [List.getElem?_eq_getElem hi])
  refine ⟨b, off, ha, ?_⟩
  unfold go_
  rw [List.getD_eq_getElem?_getD, List.getElem?_eq_getElem hi]
  exact ⟨hc 0 _ rfl, hc 1 _ rfl, hc 2 _ rfl, hc 3 _ rfl, hc 4 _ rfl, hc 5 _ rfl, hc 6 _ rfl⟩
theorem t_setO {w0 w4 : World} {B B0 c4 n : Nat} {a4 : Option Addr} {ms : List Me} {z : Value} (k : Below w0.heap.size w0 w4) (h : w4.heap[B]? = some (.cells #[z] 24 (0, 0))) (hT : StO w4 B0 a4 c4 ms) (hB : w0.heap.size ≤ B) :
    (w4.setCell ⟨B, 0, none⟩ (.slice a4 n c4)).heap[B]? = some (.cells #[.slice a4 n c4] 24 (0, 0)) ∧ Below w0.heap.size w0 (w4.setCell ⟨B, 0, none⟩ (.slice a4 n c4)) ∧ (∃ B1, StO (w4.setCell ⟨B, 0, none⟩ (.slice a4 n c4)) B1 a4 c4 ms) ∧ w0.heap.size ≤ B :=
  ⟨set1 h _, k.setCell (p := ⟨B, 0, none⟩) hB _, ⟨B0, hT.far (i := 0) h _⟩, hB⟩
theorem t_newO {w0 w4 : World} {B0 c4 n : Nat} {a4 : Option Addr} {ms : List Me} (k : Below w0.heap.size w0 w4) (hT : StO w4 B0 a4 c4 ms) :
    (w4.alloc (.cells #[.slice a4 n c4] 24)).heap[w4.heap.size]? = some (.cells #[.slice a4 n c4] 24 (0, 0)) ∧ Below w0.heap.size w0 (w4.alloc (.cells #[.slice a4 n c4] 24)) ∧ (∃ B1, StO (w4.alloc (.cells #[.slice a4 n c4] 24)) B1 a4 c4 ms) ∧ w0.heap.size ≤ w4.heap.size :=
  ⟨blk_new _ _, k.alloc k.size _, ⟨B0, hT.below ((Below.refl _ _).alloc (Nat.le_refl _) _)⟩, k.size⟩
theorem chk_nil : chk [] = 0 := by kernel_rfl
theorem sp_facts {ms ms' : List Me} {o : Opp} {er : Int} {n' : Nat} (h : callF ms o = (ms', er)) (hn : ms'.length = n') : n' ≤ 64 ∧ (er = 0 → chk ms' = 0) ∧ (er ≠ 0 → n' = 0) := by
  by_cases he : er = 0
  · subst he
    have hc := (call_in h).2.1
    exact ⟨by have := ((chk_iff _).1 hc).1; omega, fun _ => hc, fun h => absurd rfl h⟩
  · have h1 := call_ne (ms := ms) (o := o) (by rw [h]; exact he)
    rw [h] at h1
    have h2 : ms' = [] := h1
    rw [h2] at hn
    simp at hn
    exact ⟨by omega, fun h => absurd h he, fun _ => by omega⟩
theorem t_setS {w0 w4 : World} {B c4 n : Nat} {a4 : Option Addr} {ms : List Me} {s : Value} (hs : ∀ t, s ≠ .string t) (k : Below w0.heap.size w0 w4) (h : w4.heap[B]? = some (.cells #[s] 24 (0, 0))) (hT : St w4 a4 ms) (hB : w0.heap.size ≤ B) :
    (w4.setCell ⟨B, 0, none⟩ (.slice a4 n c4)).heap[B]? = some (.cells #[.slice a4 n c4] 24 (0, 0)) ∧ Below w0.heap.size w0 (w4.setCell ⟨B, 0, none⟩ (.slice a4 n c4)) ∧ St (w4.setCell ⟨B, 0, none⟩ (.slice a4 n c4)) a4 ms ∧ w0.heap.size ≤ B :=
  ⟨set1 h _, k.setCell (p := ⟨B, 0, none⟩) hB _, hT.box h hs, hB⟩
theorem t_newS {w0 w4 : World} {c4 n : Nat} {a4 : Option Addr} {ms : List Me} (k : Below w0.heap.size w0 w4) (hT : St w4 a4 ms) :
    (w4.alloc (.cells #[.slice a4 n c4] 24)).heap[w4.heap.size]? = some (.cells #[.slice a4 n c4] 24 (0, 0)) ∧ Below w0.heap.size w0 (w4.alloc (.cells #[.slice a4 n c4] 24)) ∧ St (w4.alloc (.cells #[.slice a4 n c4] 24)) a4 ms ∧ w0.heap.size ≤ w4.heap.size :=
  ⟨blk_new _ _, k.alloc k.size _, hT.below ((Below.refl _ _).alloc (Nat.le_refl _) _), k.size⟩

theorem two_set {W w : World} {XS XT n B c4 c5 : Nat} {a4 a5 : Option Addr} {ms : List Me} {v1 v2 : Value} (hS : w.heap[XS]? = some (.cells #[v1] 24 (0, 0))) (hT : w.heap[XT]? = some (.cells #[v2] 24 (0, 0))) (hne : XS ≠ XT) (h1 : StO w B a4 c4 ms) (h2 : St w a5 ms) (hv1 : ∀ t, v1 ≠ .string t) (hv2 : ∀ t, v2 ≠ .string t) (hB : Below W.heap.size W w) (hWS : W.heap.size ≤ XS) (hWT : W.heap.size ≤ XT) :
    ((w.setCell ⟨XS, 0, none⟩ (.slice a4 n c4)).setCell ⟨XT, 0, none⟩ (.slice a5 n c5)).heap[XS]? = some (.cells #[.slice a4 n c4] 24 (0, 0)) ∧ ((w.setCell ⟨XS, 0, none⟩ (.slice a4 n c4)).setCell ⟨XT, 0, none⟩ (.slice a5 n c5)).heap[XT]? = some (.cells #[.slice a5 n c5] 24 (0, 0)) ∧
    StO ((w.setCell ⟨XS, 0, none⟩ (.slice a4 n c4)).setCell ⟨XT, 0, none⟩ (.slice a5 n c5)) B a4 c4 ms ∧ St ((w.setCell ⟨XS, 0, none⟩ (.slice a4 n c4)).setCell ⟨XT, 0, none⟩ (.slice a5 n c5)) a5 ms ∧ Below W.heap.size W ((w.setCell ⟨XS, 0, none⟩ (.slice a4 n c4)).setCell ⟨XT, 0, none⟩ (.slice a5 n c5)) := by
  have t1 := set_other (i := 0) hT hne (.slice a4 n c4)
  exact ⟨set_other (i := 0) (set1 hS _) (Ne.symm hne) _, set1 t1 _, (h1.far (i := 0) hS _).far (i := 0) t1 _, (h2.box hS hv1).box t1 hv2, (hB.setCell (p := ⟨XS, 0, none⟩) hWS _).setCell (p := ⟨XT, 0, none⟩) hWT _⟩

set_option maxRecDepth 100000 in
set_option maxHeartbeats 8000000 in
theorem runs_walk {W : World} (a : Option Addr) (c : Nat) (L : List Opp) (hz : ∀ x ∈ L, OkO x) (hx : L.length ≤ maxLen) (hA : AtL W 7 opc a L) :
    Calls Try.prog 6 #[.slice a L.length c] W fun e w' => e = .returned (.bool true) ∧ Below W.heap.size W w' := by
  have HZ := Lib.hid hz
  have HA := Lib.hid hA
  unfold maxLen at hx
  clear hz hA
  go_enter Try.func6, Try.ntmps6
  go_wp2_with fail
  refine (alive_any W).mono ?_
  rintro e w1 ⟨rfl, hb⟩
  have B1 := Lib.hid hb
  clear hb
  by_cases hl : 100 < L.length
  case pos =>
    have hl' : (100 : Int) < L.length := by omega
    go_wp2_with fail
    go_ret
    exact ⟨rfl, B1.out⟩
  have hl' : ¬ (100 : Int) < L.length := by omega
  go_wp2_with fail
  refine (new_any w1).mono ?_
  rintro e w2 ⟨rfl, hb⟩
  have hal : Below w2.heap.size w2 ((w2.alloc (.cells #[.slice none 0 0] 24)).alloc (.cells #[.slice none 0 0] 24)) := blk_twoB w2 _ _
  have hnw := blk_two w2 (.cells #[.slice none 0 0] 24) (.cells #[.slice none 0 0] 24)
  have B3 := Lib.hid (bt (bt B1.out hb (Nat.le_refl _)) hal (Nat.le_refl _))
  obtain ⟨XS, hX⟩ : ∃ X, X = w2.heap.size := ⟨_, rfl⟩
  obtain ⟨XT, hX2⟩ : ∃ X, X = w2.heap.size + 1 := ⟨_, rfl⟩
  have hWS : W.heap.size ≤ XS := by rw [hX]; exact (bt B1.out hb (Nat.le_refl _)).size
  have hST : XS < XT := by omega
  rw [← hX2, ← hX] at hnw
  have S3 := Lib.hid hnw.1
  have T3 := Lib.hid hnw.2
  clear hb hal hnw B1
  go_wp2_with fail
  rw [← hX2, ← hX]
  clear hX hX2
  generalize (w2.alloc _).alloc _ = w3 at B3 S3 T3 ⊢
  go_loopw [6, 7, 8, 9, 10] (fun i _ _ _ _ wr => ∃ (k : Nat) (ms : List Me) (a1 : Option Addr) (c1 n1 B : Nat) (a2 : Option Addr) (c2 : Nat), k ≤ L.length ∧ i = .int .i64 k ∧ Hid (wr.heap[XS]? = some (.cells #[.slice a1 n1 c1] 24 (0, 0))) ∧ Hid (wr.heap[XT]? = some (.cells #[.slice a2 n1 c2] 24 (0, 0))) ∧ Hid (StO wr B a1 c1 ms) ∧ Hid (St wr a2 ms) ∧ Hid (ms.length = n1) ∧ Hid (chk ms = 0) ∧ Hid (Below W.heap.size W wr)) (fun i _ _ _ _ _ => L.length - (intOf i).toNat)
  case atStart => exact ⟨0, [], none, 0, 0, 0, none, 0, by omega, rfl, S3, T3, sto_nil _ _, st_nil _, rfl, chk_nil, B3⟩
  case round =>
    obtain ⟨k, ms, a1, c1, n1, B, a2, c2, hk, rfl, HS, HT, HST, HTS, HN, HC, HB⟩ := hrel
    have hn64 : n1 ≤ 64 := by have := ((chk_iff _).1 HC.out).1; have := HN.out; omega
    clear S3 T3 B3
    by_cases hlt : k < L.length
    · have k0 : (0 : Int) ≤ k := by omega
      have k1 : (k : Int) < L.length := by omega
      obtain ⟨b, off, rfl, q0, q1, q2, q3, q4, q5, q6⟩ := at_o (HA.out.below HB.out) k hlt
      have HOX := Lib.hid (HZ.out _ (go_mem L k hlt))
      have x0 := cell_of HS.out 0 _ rfl
      generalize go_ L k = x at q0 q1 q2 q3 q4 q5 q6 HOX
      obtain ⟨m2, hm2⟩ : ∃ m, m = (callF ms x).1 := ⟨_, rfl⟩
      obtain ⟨er, her⟩ : ∃ e, e = (callF ms x).2 := ⟨_, rfl⟩
      have HCF := Lib.hid (show callF ms x = (m2, er) by rw [hm2, her])
      obtain ⟨n2, hn2⟩ : ∃ n', n' = m2.length := ⟨_, rfl⟩
      have HN2 := Lib.hid hn2.symm
      have HSF := Lib.hid (sp_facts HCF.out HN2.out)
      have hn2b := HSF.out.1
      have HZ2 := Lib.hid (show ∀ m ∈ m2, m.ac.length ≤ 1000 from (by
        by_cases he : er = 0
        · exact fun m hm => (chk_okms (HSF.out.2.1 he) m hm).len
        · have h2 := HSF.out.2.2 he
          have h3 := HN2.out
          rw [h2, List.length_eq_zero_iff] at h3
          rw [h3]
          exact fun m hm => by cases hm))
      clear hm2 her hn2
      go_wp2_with fail
      have j0 : Below wr.heap.size wr wr := Below.refl _ _
      have jd := j0.drew
      have HK := Lib.hid (show ∀ wx, Below wr.heap.size wr wx → wx.cell? ⟨XS, 0, none⟩ = some (.slice a1 n1 c1) ∧ wx.cell? ⟨b, off + k * 7, none⟩ = some (.int .u8 x.kd) ∧ wx.cell? ⟨b, off + k * 7 + 1, none⟩ = some (.string x.nm) ∧ wx.cell? ⟨b, off + k * 7 + 2, none⟩ = some (.string x.fr) ∧ wx.cell? ⟨b, off + k * 7 + 3, none⟩ = some (.string x.tt) ∧ wx.cell? ⟨b, off + k * 7 + 4, none⟩ = some (.int .u8 x.ro) ∧ wx.cell? ⟨b, off + k * 7 + 5, none⟩ = some (.bool x.is) ∧ wx.cell? ⟨b, off + k * 7 + 6, none⟩ = some (.int .i64 x.am) from fun wx h => ⟨keep x0 h, keep q0 h, keep q1 h, keep q2 h, keep q3 h, keep q4 h, keep q5 h, keep q6 h⟩)
      have HCA := Lib.hid (fun wx (h : Below wr.heap.size wr wx) => s_call a1 c1 n1 ms x m2 n2 er wx HCF.out HN.out HN2.out (by omega) HOX.out (chk_okms HC.out) (HST.out.below h).st)
      clear x0 q0 q1 q2 q3 q4 q5 q6
      have q6 := (HK.out wr j0).1
      go_cut [7, 8] from 28 to 36 (fun p q wf => ∃ (B : Nat) (a4 : Option Addr) (c4 : Nat), p = .pointer (some ⟨B, 0, none⟩) ∧ q = .int .i64 er ∧ Hid (wf.heap[B]? = some (.cells #[.slice a4 n2 c4] 24 (0, 0)) ∧ Below wr.heap.size wr wf ∧ (∃ B1, StO wf B1 a4 c4 m2) ∧ wr.heap.size ≤ B))
      case first =>
        go_region_held3 (fun wx => wx.cell? ⟨XS, 0, none⟩ = some (.slice a1 n1 c1) ∧ wx.cell? ⟨b, off + k * 7, none⟩ = some (.int .u8 x.kd) ∧ wx.cell? ⟨b, off + k * 7 + 1, none⟩ = some (.string x.nm) ∧ wx.cell? ⟨b, off + k * 7 + 2, none⟩ = some (.string x.fr) ∧ wx.cell? ⟨b, off + k * 7 + 3, none⟩ = some (.string x.tt) ∧ wx.cell? ⟨b, off + k * 7 + 4, none⟩ = some (.int .u8 x.ro) ∧ wx.cell? ⟨b, off + k * 7 + 5, none⟩ = some (.bool x.is) ∧ wx.cell? ⟨b, off + k * 7 + 6, none⟩ = some (.int .i64 x.am))
          (first | with_reducible exact HK.out _ HFN.out.2.1 | with_reducible exact HK.out _ k3 | with_reducible exact HK.out _ jd | with_reducible exact HK.out _ (below_al k3 _) | with_reducible exact HK.out _ (below_al j0 _).drew | with_reducible exact HK.out _ (below_al jd _))
          (first
            | (go_at_call 26; refine (HCA.out wr.drew jd).mono ?_; rintro e wA ⟨a4, c4, rfl, hT3, hb3⟩; have k3 : Below wr.heap.size wr wA := bt jd hb3 (Nat.le_refl _); have HFN := Lib.hid (t_newO (n := n2) (c4 := c4) k3 hT3))
            | (go_at_call 26; refine (HCA.out (wr.drew.alloc (.cells #[.slice none 0 0] 24)) (below_al jd _)).mono ?_; rintro e wA ⟨a4, c4, rfl, hT3, hb3⟩; have k3 : Below wr.heap.size wr wA := bt (below_al jd _) hb3 (Nat.le_refl _); have ZC := Lib.hid (show wA.heap[wr.heap.size]? = some (.cells #[.slice none 0 0] 24 (0, 0)) from blk_keep (blk_new wr.drew (.cells #[.slice none 0 0] 24)) hb3); have z0 := cell_of ZC.out 0 _ rfl; have f0 := frozen_of ZC.out 0; have HFN := Lib.hid (t_setO (n := n2) (c4 := c4) k3 ZC.out hT3 (Nat.le_refl _))))
        all_goals
          go_wp2
          go_meet
          case rel => exact ⟨_, _, _, rfl, rfl, HFN⟩
      case rest =>
        rename World => wf1
        obtain ⟨XA, a4, c4, rfl, rfl, HBX⟩ := hcut
        have kx := HBX.out.2.1
        have A0 := Lib.hid HBX.out.1
        have HA0 := Lib.hid HBX.out.2.2.1
        have hAX := HBX.out.2.2.2
        have HWF := Lib.hid (show wr.heap.size ≤ wf1.heap.size from kx.size)
        have hSX := blk_lt HS.out
        have hTX := blk_lt HT.out
        have S4 := Lib.hid (blk_keep HS.out kx)
        have T4 := Lib.hid (blk_keep HT.out kx)
        have HB4 := Lib.hid (bt HB.out kx (Nat.le_refl _))
        have HST4 := Lib.hid (HST.out.below kx)
        have HTS4 := Lib.hid (HTS.out.below kx)
        obtain ⟨qs, q0, q1, q2, q3, q4, q5, q6'⟩ := HK.out _ kx
        have q6 := q6'
        have x0 := cell_of T4.out 0 _ rfl
        clear HBX HK HCA HS HT HB HST HTS q6' qs j0 jd kx
        go_wp2_with fail
        have j0 : Below wf1.heap.size wf1 wf1 := Below.refl _ _
        have jd := j0.drew
        have HK := Lib.hid (show ∀ wx, Below wf1.heap.size wf1 wx → wx.cell? ⟨XT, 0, none⟩ = some (.slice a2 n1 c2) ∧ wx.cell? ⟨b, off + k * 7, none⟩ = some (.int .u8 x.kd) ∧ wx.cell? ⟨b, off + k * 7 + 1, none⟩ = some (.string x.nm) ∧ wx.cell? ⟨b, off + k * 7 + 2, none⟩ = some (.string x.fr) ∧ wx.cell? ⟨b, off + k * 7 + 3, none⟩ = some (.string x.tt) ∧ wx.cell? ⟨b, off + k * 7 + 4, none⟩ = some (.int .u8 x.ro) ∧ wx.cell? ⟨b, off + k * 7 + 5, none⟩ = some (.bool x.is) ∧ wx.cell? ⟨b, off + k * 7 + 6, none⟩ = some (.int .i64 x.am) from fun wx h => ⟨keep x0 h, keep q0 h, keep q1 h, keep q2 h, keep q3 h, keep q4 h, keep q5 h, keep q6 h⟩)
        have HCA := Lib.hid (fun wx (h : Below wf1.heap.size wf1 wx) => s_asked a2 c2 n1 ms x m2 n2 er wx HCF.out HN.out HN2.out (by omega) HOX.out (chk_okms HC.out) (HTS4.out.below h))
        clear x0 q0 q1 q2 q3 q4 q5 q6
        have q6 := (HK.out wf1 j0).1
        go_cut [9, 10] from 37 to 45 (fun p q wf => ∃ (B : Nat) (a4 : Option Addr) (c4 : Nat), p = .pointer (some ⟨B, 0, none⟩) ∧ q = .int .i64 er ∧ Hid (wf.heap[B]? = some (.cells #[.slice a4 n2 c4] 24 (0, 0)) ∧ Below wf1.heap.size wf1 wf ∧ St wf a4 m2 ∧ wf1.heap.size ≤ B))
        case first =>
          go_region_held3 (fun wx => wx.cell? ⟨XT, 0, none⟩ = some (.slice a2 n1 c2) ∧ wx.cell? ⟨b, off + k * 7, none⟩ = some (.int .u8 x.kd) ∧ wx.cell? ⟨b, off + k * 7 + 1, none⟩ = some (.string x.nm) ∧ wx.cell? ⟨b, off + k * 7 + 2, none⟩ = some (.string x.fr) ∧ wx.cell? ⟨b, off + k * 7 + 3, none⟩ = some (.string x.tt) ∧ wx.cell? ⟨b, off + k * 7 + 4, none⟩ = some (.int .u8 x.ro) ∧ wx.cell? ⟨b, off + k * 7 + 5, none⟩ = some (.bool x.is) ∧ wx.cell? ⟨b, off + k * 7 + 6, none⟩ = some (.int .i64 x.am))
            (first | with_reducible exact HK.out _ HFN.out.2.1 | with_reducible exact HK.out _ k3 | with_reducible exact HK.out _ jd | with_reducible exact HK.out _ (below_al k3 _) | with_reducible exact HK.out _ (below_al j0 _).drew | with_reducible exact HK.out _ (below_al jd _))
            (first
              | (go_at_call 29; refine (HCA.out wf1.drew jd).mono ?_; rintro e wA ⟨a4, c4, rfl, hT3, hb3⟩; have k3 : Below wf1.heap.size wf1 wA := bt jd hb3 (Nat.le_refl _); have HFN := Lib.hid (t_newS (n := n2) (c4 := c4) k3 hT3))
              | (go_at_call 29; refine (HCA.out (wf1.drew.alloc (.cells #[.slice none 0 0] 24)) (below_al jd _)).mono ?_; rintro e wA ⟨a4, c4, rfl, hT3, hb3⟩; have k3 : Below wf1.heap.size wf1 wA := bt (below_al jd _) hb3 (Nat.le_refl _); have ZC := Lib.hid (show wA.heap[wf1.heap.size]? = some (.cells #[.slice none 0 0] 24 (0, 0)) from blk_keep (blk_new wf1.drew (.cells #[.slice none 0 0] 24)) hb3); have z0 := cell_of ZC.out 0 _ rfl; have f0 := frozen_of ZC.out 0; have HFN := Lib.hid (t_setS (fun t e => by cases e) (n := n2) (c4 := c4) k3 ZC.out hT3 (Nat.le_refl _))))
          all_goals
            go_wp2
            go_meet
            case rel => exact ⟨_, _, _, rfl, rfl, HFN⟩
        case rest =>
          obtain ⟨XB, a5, c5, rfl, rfl, HBX⟩ := hcut
          have kx := HBX.out.2.1
          have Bb := Lib.hid HBX.out.1
          have HB0 := Lib.hid HBX.out.2.2.1
          have hBX := HBX.out.2.2.2
          have HXX := Lib.hid (show XS < XB from by have := HWF.out; omega)
          have hXX := HXX
          have S5 := Lib.hid (blk_keep S4.out kx)
          have T5 := Lib.hid (blk_keep T4.out kx)
          have A5 := Lib.hid (blk_keep A0.out kx)
          have HB5 := Lib.hid (bt HB4.out kx (Nat.le_refl _))
          have HST5 := Lib.hid (HST4.out.below kx)
          have HTS5 := Lib.hid (HTS4.out.below kx)
          obtain ⟨B1, hB1⟩ := HA0.out
          have HA5 := Lib.hid (hB1.below kx)
          clear HBX HK HCA S4 T4 A0 HB4 HST4 HTS4 HA0 hB1 q6 j0 jd kx
          have x5 := cell_of A5.out 0 _ rfl
          have y5 := cell_of Bb.out 0 _ rfl
          go_wp2_with fail
          refine (s_same a4 a5 c4 c5 n2 n2 m2 m2 true _ (decide_eq_true rfl) HN2.out HN2.out (by omega) HZ2.out HA5.out.st HB0.out).mono ?_
          rintro e w6 ⟨rfl, hb6⟩
          have S6 := Lib.hid (blk_keep S5.out hb6)
          have T6 := Lib.hid (blk_keep T5.out hb6)
          have A6 := Lib.hid (blk_keep A5.out hb6)
          have Bb6 := Lib.hid (blk_keep Bb.out hb6)
          have HB6 := Lib.hid (bt HB5.out hb6 (Nat.le_refl _))
          have HST6 := Lib.hid (HST5.out.below hb6)
          have HTS6 := Lib.hid (HTS5.out.below hb6)
          have HA6 := Lib.hid (HA5.out.below hb6)
          have HB0' := Lib.hid (HB0.out.below hb6)
          clear S5 T5 A5 Bb HB5 HST5 HTS5 HA5 HB0 x5 y5 hb6
          have he0 : (er != er) = false := by simp
          have he1 : (er == er) = true := by simp
          by_cases he : er = 0
          case neg =>
            have he' : (er == 0) = false := by simpa using he
            go_wp2_with fail
            go_roundw
            case rel => exact ⟨k + 1, ms, a1, c1, n1, B, a2, c2, by omega, by go_num, S6, T6, HST6, HTS6, HN, HC, HB6⟩
            case measure => simp [intOf]; omega
          case pos =>
            subst he
            have HC2 := Lib.hid (HSF.out.2.1 rfl)
            have x5 := cell_of A6.out 0 _ rfl
            have y5 := cell_of Bb6.out 0 _ rfl
            have s6 := cell_of S6.out 0 _ rfl
            have t6 := cell_of T6.out 0 _ rfl
            have sf := frozen_of S6.out 0
            have tf := frozen_of T6.out 0
            clear HSF HCF he0 he1
            have hSB : XS ≠ XB := by have := hXX.out; omega
            have hBS : XB ≠ XS := fun h => hSB h.symm
            have hSA : XS ≠ XA := by omega
            have hTS : XT ≠ XS := by omega
            have F7 := Lib.hid (fun wx (h : Below w6.heap.size w6 wx) => two_set (n := n2) (c4 := c4) (c5 := c5) (blk_keep S6.out h) (blk_keep T6.out h) (show XS ≠ XT by omega) (HA6.out.below h) (HB0'.out.below h) (fun t e => by cases e) (fun t e => by cases e) (bt HB6.out h (Nat.le_refl _)) hWS (show W.heap.size ≤ XT by omega))
            have jd := (Below.refl w6.heap.size w6).drew
            go_wp2_with fail
            go_region
            obtain ⟨f1, f2, f3, f4, f5⟩ := F7.out w6 (Below.refl _ _)
            clear jd
            go_wp2
            go_roundw
            case rel => exact ⟨k + 1, m2, a4, c4, n2, B1, a5, c5, by omega, by go_num, blk_keep f1 (Below.refl _ _).drew, blk_keep f2 (Below.refl _ _).drew, f3.below (Below.refl _ _).drew, f4.below (Below.refl _ _).drew, HN2, HC2, bt f5 (Below.refl _ _).drew (Nat.le_refl _)⟩
            case measure => simp [intOf]; omega
    · have k1 : ¬ (k : Int) < L.length := by omega
      go_wp2_with fail
      go_ret
      exact ⟨rfl, HB.out⟩
end Go.Proofs.Ytoemjpfoddeinaa.Mb
