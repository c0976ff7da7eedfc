/-
  Member: the walk of MemberLimits.
-/
import Derived.Test.YtoemjpfoddeinaaMbU
import Derived.Test.YtoemjpfoddeinaaMbV
import Derived.Test.YtoemjpfoddeinaaMw6
namespace Go.Proofs.Ytoemjpfoddeinaa.Mb
open Go.RowKit Go.Proofs.Ytoemjpfoddeinaa Go.Proofs.Ytoemjpfoddeinaa.Ls Go.Proofs.Ytoemjpfoddeinaa.Kb
open Go.Proofs.Ytoemjpfoddeinaa.Nm hiding ret_bool ret_int

def o0 : Opp := ⟨0, ⟨#[]⟩, ⟨#[]⟩, ⟨#[]⟩, 0, false, 0⟩
def go_ (L : List Opp) (i : Nat) : Opp := L.getD i o0
theorem go_mem (L : List Opp) (i : Nat) (h : i < L.length) : go_ L i ∈ L := by unfold go_; rw [List.getD_eq_getElem?_getD, List.getElem?_eq_getElem h]; exact List.getElem_mem _
theorem at_o {w : World} {a : Option Addr} {L : List Opp} (h : AtL w 7 opc a L) (i : Nat) (hi : i < L.length) : ∃ b off, a = some ⟨b, off, none⟩ ∧ w.cell? ⟨b, off + i * 7, none⟩ = some (.int .u8 (go_ L i).kd) ∧ w.cell? ⟨b, off + i * 7 + 1, none⟩ = some (.string (go_ L i).nm) ∧
    w.cell? ⟨b, off + i * 7 + 2, none⟩ = some (.string (go_ L i).fr) ∧ w.cell? ⟨b, off + i * 7 + 3, none⟩ = some (.string (go_ L i).tt) ∧ w.cell? ⟨b, off + i * 7 + 4, none⟩ = some (.int .u8 (go_ L i).ro) ∧ w.cell? ⟨b, off + i * 7 + 5, none⟩ = some (.bool (go_ L i).is) ∧ w.cell? ⟨b, off + i * 7 + 6, none⟩ = some (.int .i64 (go_ L i).am) := by
  obtain ⟨b, off, ha, hc⟩ := h i L[i] (by rw [List.getElem?_eq_getElem hi])
  refine ⟨b, off, ha, ?_⟩
  unfold go_
  rw [List.getD_eq_getElem?_getD, List.getElem?_eq_getElem hi]
  exact ⟨hc 0 _ rfl, hc 1 _ rfl, hc 2 _ rfl, hc 3 _ rfl, hc 4 _ rfl, hc 5 _ rfl, hc 6 _ rfl⟩
theorem t_setO {w0 w4 : World} {B B0 c4 n : Nat} {a4 : Option Addr} {ms : List Me} {z : Value} (k : Below w0.heap.size w0 w4) (h : w4.heap[B]? = some (.cells #[z] 24 (0, 0))) (hT : StO w4 B0 a4 c4 ms) (hB : w0.heap.size ≤ B) :
    (w4.setCell ⟨B, 0, none⟩ (.slice a4 n c4)).heap[B]? = some (.cells #[.slice a4 n c4] 24 (0, 0)) ∧ Below w0.heap.size w0 (w4.setCell ⟨B, 0, none⟩ (.slice a4 n c4)) ∧ (∃ B1, StO (w4.setCell ⟨B, 0, none⟩ (.slice a4 n c4)) B1 a4 c4 ms) ∧ w0.heap.size ≤ B :=
  ⟨set1 h _, k.setCell (p := ⟨B, 0, none⟩) hB _, ⟨B0, hT.far (i := 0) h _⟩, hB⟩
theorem t_newO {w0 w4 : World} {B0 c4 n : Nat} {a4 : Option Addr} {ms : List Me} (k : Below w0.heap.size w0 w4) (hT : StO w4 B0 a4 c4 ms) :
    (w4.alloc (.cells #[.slice a4 n c4] 24)).heap[w4.heap.size]? = some (.cells #[.slice a4 n c4] 24 (0, 0)) ∧ Below w0.heap.size w0 (w4.alloc (.cells #[.slice a4 n c4] 24)) ∧ (∃ B1, StO (w4.alloc (.cells #[.slice a4 n c4] 24)) B1 a4 c4 ms) ∧ w0.heap.size ≤ w4.heap.size :=
  ⟨blk_new _ _, k.alloc k.size _, ⟨B0, hT.below ((Below.refl _ _).alloc (Nat.le_refl _) _)⟩, k.size⟩
theorem chk_nil : chk [] = 0 := by kernel_rfl
theorem sp_facts {ms ms' : List Me} {o : Opp} {er : Int} {n' : Nat} (h : callF ms o = (ms', er)) (hn : ms'.length = n') : n' ≤ 64 ∧ (er = 0 → chk ms' = 0) ∧ (er ≠ 0 → n' = 0) := by
  by_cases he : er = 0
  · subst he
    have hc := (call_in h).2.1
    exact ⟨by have := ((chk_iff _).1 hc).1; omega, fun _ => hc, fun h => absurd rfl h⟩
  · have h1 := call_ne (ms := ms) (o := o) (by rw [h]; exact he)
    rw [h] at h1
    have h2 : ms' = [] := h1
    rw [h2] at hn
    simp at hn
    exact ⟨by omega, fun h => absurd h he, fun _ => by omega⟩

set_option maxRecDepth 100000 in
set_option maxHeartbeats 8000000 in
theorem limits_walk {W : World} (a : Option Addr) (c : Nat) (L : List Opp) (hz : ∀ x ∈ L, OkO x) (hx : L.length ≤ maxLen) (hA : AtL W 7 opc a L) :
    Calls Try.prog 7 #[.slice a L.length c] W fun e w' => e = .returned (.bool true) ∧ Below W.heap.size W w' := by
  have HZ := Lib.hid hz
  have HA := Lib.hid hA
  unfold maxLen at hx
  clear hz hA
  go_enter Try.func7, Try.ntmps7
  go_wp2_with fail
  refine (alive_any W).mono ?_
  rintro e w1 ⟨rfl, hb⟩
  have B1 := Lib.hid hb
  clear hb
  by_cases hl : 100 < L.length
  case pos =>
    have hl' : (100 : Int) < L.length := by omega
    go_wp2_with fail
    go_ret
    exact ⟨rfl, B1.out⟩
  have hl' : ¬ (100 : Int) < L.length := by omega
  go_wp2_with fail
  refine (new_any w1).mono ?_
  rintro e w2 ⟨rfl, hb⟩
  have hal : Below w2.heap.size w2 (w2.alloc (.cells #[.slice none 0 0] 24)) := (Below.refl _ _).alloc (Nat.le_refl _) _
  have hnw := blk_new w2 (.cells #[.slice none 0 0] 24)
  have B3 := Lib.hid (bt (bt B1.out hb (Nat.le_refl _)) hal (Nat.le_refl _))
  obtain ⟨XS, hX⟩ : ∃ X, X = w2.heap.size := ⟨_, rfl⟩
  have hWS : W.heap.size ≤ XS := by rw [hX]; exact (bt B1.out hb (Nat.le_refl _)).size
  rw [← hX] at hnw
  have S3 := Lib.hid hnw
  clear hb hal hnw B1
  go_wp2_with fail
  rw [← hX]
  clear hX
  generalize w2.alloc _ = w3 at B3 S3 ⊢
  go_loopw [5, 6, 7] (fun i _ _ wr => ∃ (k : Nat) (ms : List Me) (a' : Option Addr) (c' n' B : Nat), k ≤ L.length ∧ i = .int .i64 k ∧ Hid (wr.heap[XS]? = some (.cells #[.slice a' n' c'] 24 (0, 0))) ∧ Hid (StO wr B a' c' ms) ∧ Hid (ms.length = n') ∧ Hid (chk ms = 0) ∧ Hid (Below W.heap.size W wr)) (fun i _ _ _ => L.length - (intOf i).toNat)
  case atStart => exact ⟨0, [], none, 0, 0, 0, by omega, rfl, S3, sto_nil _ _, rfl, chk_nil, B3⟩
  case round =>
    obtain ⟨k, ms, a', c', n', B, hk, rfl, HS, HST, HN, HC, HB⟩ := hrel
    have hn64 : n' ≤ 64 := by have := ((chk_iff _).1 HC.out).1; have := HN.out; omega
    clear S3 B3
    by_cases hlt : k < L.length
    · have k0 : (0 : Int) ≤ k := by omega
      have k1 : (k : Int) < L.length := by omega
      obtain ⟨b, off, rfl, q0, q1, q2, q3, q4, q5, q6⟩ := at_o (HA.out.below HB.out) k hlt
      have HOX := Lib.hid (HZ.out _ (go_mem L k hlt))
      have x0 := cell_of HS.out 0 _ rfl
      generalize go_ L k = x at q0 q1 q2 q3 q4 q5 q6 HOX
      obtain ⟨m2, hm2⟩ : ∃ m, m = (callF ms x).1 := ⟨_, rfl⟩
      obtain ⟨er, her⟩ : ∃ e, e = (callF ms x).2 := ⟨_, rfl⟩
      have HCF := Lib.hid (show callF ms x = (m2, er) by rw [hm2, her])
      obtain ⟨n2, hn2⟩ : ∃ n', n' = m2.length := ⟨_, rfl⟩
      have HN2 := Lib.hid hn2.symm
      have HSF := Lib.hid (sp_facts HCF.out HN2.out)
      have hn2b := HSF.out.1
      clear hm2 her hn2
      have j0 : Below wr.heap.size wr wr := Below.refl _ _
      have jd := j0.drew
      have HK := Lib.hid (show ∀ wx, Below wr.heap.size wr wx → wx.cell? ⟨XS, 0, none⟩ = some (.slice a' n' c') ∧ wx.cell? ⟨b, off + k * 7, none⟩ = some (.int .u8 x.kd) ∧ wx.cell? ⟨b, off + k * 7 + 1, none⟩ = some (.string x.nm) ∧ wx.cell? ⟨b, off + k * 7 + 2, none⟩ = some (.string x.fr) ∧ wx.cell? ⟨b, off + k * 7 + 3, none⟩ = some (.string x.tt) ∧ wx.cell? ⟨b, off + k * 7 + 4, none⟩ = some (.int .u8 x.ro) ∧ wx.cell? ⟨b, off + k * 7 + 5, none⟩ = some (.bool x.is) ∧ wx.cell? ⟨b, off + k * 7 + 6, none⟩ = some (.int .i64 x.am) from fun wx h => ⟨keep x0 h, keep q0 h, keep q1 h, keep q2 h, keep q3 h, keep q4 h, keep q5 h, keep q6 h⟩)
      have HCA := Lib.hid (fun wx (h : Below wr.heap.size wr wx) => s_call a' c' n' ms x m2 n2 er wx HCF.out HN.out HN2.out (by omega) HOX.out (chk_okms HC.out) (HST.out.below h).st)
      clear x0 q0 q1 q2 q3 q4 q5 q6
      have q6 := (HK.out wr j0).1
      go_wp2_with fail
      go_cut [6, 7] from 24 to 32 (fun p q wf => ∃ (B : Nat) (a4 : Option Addr) (c4 : Nat), p = .pointer (some ⟨B, 0, none⟩) ∧ q = .int .i64 er ∧ Hid (wf.heap[B]? = some (.cells #[.slice a4 n2 c4] 24 (0, 0)) ∧ Below wr.heap.size wr wf ∧ (∃ B1, StO wf B1 a4 c4 m2) ∧ wr.heap.size ≤ B))
      case first =>
        go_region_held3 (fun wx => wx.cell? ⟨XS, 0, none⟩ = some (.slice a' n' c') ∧ wx.cell? ⟨b, off + k * 7, none⟩ = some (.int .u8 x.kd) ∧ wx.cell? ⟨b, off + k * 7 + 1, none⟩ = some (.string x.nm) ∧ wx.cell? ⟨b, off + k * 7 + 2, none⟩ = some (.string x.fr) ∧ wx.cell? ⟨b, off + k * 7 + 3, none⟩ = some (.string x.tt) ∧ wx.cell? ⟨b, off + k * 7 + 4, none⟩ = some (.int .u8 x.ro) ∧ wx.cell? ⟨b, off + k * 7 + 5, none⟩ = some (.bool x.is) ∧ wx.cell? ⟨b, off + k * 7 + 6, none⟩ = some (.int .i64 x.am))
          (first | with_reducible exact HK.out _ HFN.out.2.1 | with_reducible exact HK.out _ k3 | with_reducible exact HK.out _ jd | with_reducible exact HK.out _ (below_al k3 _) | with_reducible exact HK.out _ (below_al j0 _).drew | with_reducible exact HK.out _ (below_al jd _))
          (first
            | (go_at_call 26; refine (HCA.out wr.drew jd).mono ?_; rintro e wA ⟨a4, c4, rfl, hT3, hb3⟩; have k3 : Below wr.heap.size wr wA := bt jd hb3 (Nat.le_refl _); have HFN := Lib.hid (t_newO (n := n2) k3 hT3))
            | (go_at_call 26; refine (HCA.out (wr.drew.alloc (.cells #[.slice none 0 0] 24)) (below_al jd _)).mono ?_; rintro e wA ⟨a4, c4, rfl, hT3, hb3⟩; have k3 : Below wr.heap.size wr wA := bt (below_al jd _) hb3 (Nat.le_refl _); have ZC := Lib.hid (show wA.heap[wr.heap.size]? = some (.cells #[.slice none 0 0] 24 (0, 0)) from blk_keep (blk_new wr.drew (.cells #[.slice none 0 0] 24)) hb3); have z0 := cell_of ZC.out 0 _ rfl; have f0 := frozen_of ZC.out 0; have HFN := Lib.hid (t_setO (n := n2) k3 ZC.out hT3 (Nat.le_refl _))))
        all_goals
          go_wp2
          go_meet
          case rel => exact ⟨_, _, _, rfl, rfl, HFN⟩
      case rest =>
        obtain ⟨XT, a4, c4, rfl, rfl, HBX⟩ := hcut
        have T0 := Lib.hid HBX.out.1
        have HT0 := Lib.hid HBX.out.2.2.1
        have kx := HBX.out.2.1
        have hTX := HBX.out.2.2.2
        have hSX := blk_lt HS.out
        have S4 := Lib.hid (blk_keep HS.out kx)
        have HB4 := Lib.hid (bt HB.out kx (Nat.le_refl _))
        have HST4 := Lib.hid (HST.out.below kx)
        clear HBX HK HCA HS HB HST q6 j0 jd kx
        have t0 := cell_of T0.out 0 _ rfl
        by_cases he : er = 0
        case neg =>
          have he' : (er != 0) = true := by simpa using he
          obtain rfl := HSF.out.2.2 he
          go_wp2_with fail
          go_roundw
          case rel => exact ⟨k + 1, ms, a', c', n', B, by omega, by go_num, S4, HST4, HN, HC, HB4⟩
          case measure => simp [intOf]; omega
        case pos =>
          subst he
          have HC2 := Lib.hid (HSF.out.2.1 rfl)
          obtain ⟨B1, hB1⟩ := HT0.out
          have HT1 := Lib.hid hB1
          clear HSF HCF hB1 HT0
          go_wp2_with fail
          refine (holds_any a4 c4 n2 m2 _ HC2.out HN2.out HT1.out.st).mono ?_
          rintro e w5 ⟨rfl, hb5⟩
          have T5 := Lib.hid (blk_keep T0.out hb5)
          have t5 := cell_of T5.out 0 _ rfl
          have S5 := Lib.hid (blk_keep S4.out hb5)
          have HB5 := Lib.hid (bt HB4.out hb5 (Nat.le_refl _))
          have HT5 := Lib.hid (HT1.out.below hb5)
          clear T0 t0 S4 HB4 HST4 HT1 hb5
          go_wp2_with fail
          refine (s_check a4 c4 n2 m2 0 w5 HC2.out HN2.out (by omega) (chk_okms HC2.out) HT5.out.st).mono ?_
          rintro e w6 ⟨rfl, hb6⟩
          have T6 := Lib.hid (blk_keep T5.out hb6)
          have t6 := cell_of T6.out 0 _ rfl
          have S6 := Lib.hid (blk_keep S5.out hb6)
          have s6 := cell_of S6.out 0 _ rfl
          have sf6 := frozen_of S6.out 0
          have S7 := Lib.hid (set1 S6.out (.slice a4 n2 c4))
          have HT7 := Lib.hid ((HT5.out.below hb6).far (i := 0) S6.out (.slice a4 n2 c4))
          have HB7 := Lib.hid ((bt HB5.out hb6 (Nat.le_refl _)).setCell (p := ⟨XS, 0, none⟩) hWS (.slice a4 n2 c4))
          clear T5 t5 S5 HB5 HT5 hb6
          go_wp2_with fail
          go_roundw
          case rel => exact ⟨k + 1, m2, a4, c4, n2, B1, by omega, by go_num, S7, HT7, HN2, HC2, HB7⟩
          case measure => simp [intOf]; omega
    · have k1 : ¬ (k : Int) < L.length := by omega
      go_wp2_with fail
      go_ret
      exact ⟨rfl, HB.out⟩
end Go.Proofs.Ytoemjpfoddeinaa.Mb
