/-
  Compress: a number of a slice of the call's own is written; the walk of the reference's Far.
-/
import Derived.Test.YtpphiohppgphnaaCs4
import Derived.Test.YtpphiohppgphnaaLs4
import Derived.Deep.LoopGhost
namespace Go.Proofs.Ytpphiohppgphnaa.Cs
open Go.RowKit Go.Proofs.Ytpphiohppgphnaa Go.Proofs.Ytpphiohppgphnaa.Ls Go.Proofs.Ytpphiohppgphnaa.Kb Go.Proofs.Ytpphiohppgphnaa.Cz
open Go.Proofs.Ytpphiohppgphnaa.Nm hiding ret_bool ret_int hb'

theorem ic_one (x : Int) : ∀ u ∈ ic x, u.oneCell' = true := by simp [ic, Value.oneCell']
theorem info_int : (Try.prog.info? 3).map (fun i => (i.zero, i.size, i.bytes)) = some (some (.int .i64 0), 1, 8) := by kernel_rfl
theorem own_set_int {w : World} {B g cap : Nat} {L : List Int} (h : OwnL w B 3 1 ic (.slice (some ⟨g, 0, none⟩) L.length cap) L) (i : Nat) (hi : i < L.length) (v : Int) :
    OwnL (w.setCell ⟨g, i, none⟩ (.int .i64 v)) B 3 1 ic (.slice (some ⟨g, 0, none⟩) L.length cap) (L.set i v) := by
  obtain ⟨cur, _, hg, hc, _, hcs, htk⟩ := h.row'
  have hz : (L.set i v).length = L.length := List.length_set ..
  have hw := h.write ic_len i [v] (by omega) (by simp only [List.length_singleton]; omega) L.length (L.set i v) (by
    rw [List.length_singleton, List.append_assoc, List.singleton_append, List.set_eq_take_append_cons_drop, if_pos hi]
    exact (List.take_of_length_le (by rw [List.length_append, List.length_take, List.length_cons, List.length_drop]; omega)).symm) hz (i * 1) rfl _ rfl
  rw [Nat.mul_one] at hw
  exact hw
theorem own_int_cell {w : World} {B g cap n : Nat} {L : List Int} (h : OwnL w B 3 1 ic (.slice (some ⟨g, 0, none⟩) n cap) L) (i : Nat) (hi : i < L.length) : w.cell? ⟨g, i, none⟩ = some (.int .i64 (oi L i)) := by
  have := at_int' (h.sl ic_len).1 i hi
  rwa [Nat.zero_add] at this
theorem own_set_int_len {w : World} {B g cap n : Nat} {L : List Int} (h : OwnL w B 3 1 ic (.slice (some ⟨g, 0, none⟩) n cap) L) (i : Nat) (hi : i < L.length) (v : Int) : OwnL (w.setCell ⟨g, i, none⟩ (.int .i64 v)) B 3 1 ic (.slice (some ⟨g, 0, none⟩) n cap) (L.set i v) := by
  have hl := (h.sl ic_len).2.1
  rw [hl] at h ⊢
  exact own_set_int h i hi v
theorem own_set_drew {w : World} {B g cap n : Nat} {L : List Int} (h : OwnL w B 3 1 ic (.slice (some ⟨g, 0, none⟩) n cap) L) (hl : L.length = n) (i : Nat) (hi : i < n) (v : Int) (x : Nat) : OwnL ((w.drewN x).setCell ⟨g, i, none⟩ (.int .i64 v)) B 3 1 ic (.slice (some ⟨g, 0, none⟩) n cap) (L.set i v) :=
  own_set_int_len (h.below (below_drewN (Below.refl _ _) x)) i (by omega) v
theorem own_frozen {w : World} {B g cap n : Nat} {L : List Int} (h : OwnL w B 3 1 ic (.slice (some ⟨g, 0, none⟩) n cap) L) (i x : Nat) : (w.drewN x).frozen? ⟨g, i, none⟩ = false := by
  have hl := (h.sl ic_len).2.1
  rw [hl] at h
  obtain ⟨cur, _, hg, _⟩ := h.row'
  exact frozen_of (w := w.drewN x) hg i
/-- within a pass over the pairs: what has changed since its start; i0 rows and k0 pairs of the next one are done -/
def Pass (l : List Tr) (c : ByteArray) (out1 out : List Int) (ag : Bool) (i0 k0 : Nat) : Prop :=
  (ag = true ∧ msr l.length out < msr l.length out1) ∨ (ag = false ∧ out = out1 ∧ (∀ i k, i < i0 → k < l.length → Okp l c out1 i k) ∧ ∀ k, k < k0 → Okp l c out1 i0 k)
section
variable {l : List Tr} {c : ByteArray} {out1 out : List Int} {ag : Bool} {i0 k0 : Nat}
theorem pass_ok (h : Pass l c out1 out ag i0 k0) (ho : Okp l c out i0 k0) : Pass l c out1 out ag i0 (k0 + 1) := by
  rcases h with h | ⟨h1, rfl, h3, h4⟩
  · exact .inl h
  · refine .inr ⟨h1, rfl, h3, fun k hk => ?_⟩
    rcases Nat.eq_or_lt_of_le (show k ≤ k0 by omega) with g | g
    · subst g; exact ho
    · exact h4 k g
theorem pass_set {out2 : List Int} (h : Pass l c out1 out ag i0 k0) (hm : msr l.length out2 < msr l.length out) : Pass l c out1 out2 true i0 (k0 + 1) := by
  rcases h with ⟨_, h⟩ | ⟨_, rfl, _⟩
  · exact .inl ⟨rfl, by omega⟩
  · exact .inl ⟨rfl, hm⟩
theorem pass_row (h : Pass l c out1 out ag i0 l.length) : Pass l c out1 out ag (i0 + 1) 0 := by
  rcases h with h | ⟨h1, h2, h3, h4⟩
  · exact .inl h
  · refine .inr ⟨h1, h2, fun i k hi hk => ?_, fun k hk => by omega⟩
    rcases Nat.eq_or_lt_of_le (show i ≤ i0 by omega) with g | g
    · subst g; exact h4 k hk
    · exact h3 i k g hk
end
set_option maxRecDepth 100000 in
set_option maxHeartbeats 8000000 in
theorem far_any (a : Option Addr) (cL : Nat) (l : List Tr) (c T : ByteArray) (w : World) (hn : l.length ≤ 1000000) (hA : AtL w 4 trc a l) :
    Calls Try.prog 39 #[.slice a l.length cL, .string c, .string T] w fun e w' => ∃ a' c' out, e = .returned (.slice a' l.length c') ∧ FarR l c T out ∧ OwnL w' w.heap.size 3 1 ic (.slice a' l.length c') out ∧ Below w.heap.size w w' := by
  have HA := Lib.hid hA
  clear hA
  go_enter Try.func39, Try.ntmps39
  go_wp2_with fail
  go_loopw [7, 8, 9] (fun o i _ wr => ∃ (k : Nat) (oa : Option Addr) (oc : Nat), k ≤ l.length ∧ i = .int .i64 k ∧ o = .slice oa k oc ∧ Hid (OwnL wr w.heap.size 3 1 ic (.slice oa k oc) (far0 l c T k)) ∧ Below w.heap.size w wr) (fun _ i _ _ => l.length - (intOf i).toNat)
  case atStart => exact ⟨0, none, 0, by omega, rfl, rfl, OwnL.nil _ _ _ _ _, Below.refl _ _⟩
  case round =>
    obtain ⟨k, oa, oc, hk, rfl, rfl, HO, hbw⟩ := hrel
    rcases Nat.lt_or_ge k l.length with hlt | hge
    · have hki : (k : Int) < l.length := by omega
      have hk0 : (0 : Int) ≤ (k : Int) := by omega
      obtain ⟨lb, lo, rfl, q0, q1, q2, q3⟩ := at_tr (HA.out.below hbw) k hlt
      have HS := Lib.hid (far0_snoc l c T k hlt)
      have HLN := Lib.hid (show (far0 l c T k).length = k by unfold far0; rw [List.length_map, List.length_take]; omega)
      generalize far0 l c T k = ls at *
      generalize gt l k = x at *
      obtain ⟨xf, xt, xc, xa⟩ := x
      dsimp only at q0 q1 q2 q3
      have hln := HLN.out
      by_cases h1 : xc = c
      · have e1 := eq_yes h1
        by_cases h2 : xt = T
        · have e2 := eq_yes h2
          rw [if_pos ⟨h1, h2⟩] at HS
          clear h1 h2
          go_wp2_with (at_builtin; refine wpList_append_L (P := Try.prog) (α := Int) rfl _ _ _ rfl 3 (.int .i64 0) 1 8 Try.underlying38 info_int rfl (by decide) w.heap.size ic (.slice oa k oc) ls (0) wr.heap.size #[.int .i64 (0)] (by rfl) (by rfl) (HO.out.below ((Below.refl _ _).alloc (Nat.le_refl _) _)) (blk_new wr _) rfl (ic_len _) (ic_one _) (by unfold maxLen; omega) (by omega) (by have := hbw.size; simp; omega) ?_; intro g9 cap w9 ho9 hg9 hat9)
          have k9 : Below w.heap.size w w9 := (hbw.alloc hbw.size _).grown hg9 (by have := hbw.size; simp; omega) (fun j hj => (HO.out.lt j hj).1)
          have HO9 := Lib.hid ho9
          clear ho9 hg9 hat9 hln
          go_wp2
          go_roundw
          case rel => exact ⟨k + 1, some ⟨g9, 0, none⟩, cap, by omega, by go_num, rfl, by unfold Hid; rw [HS.out, ← HLN.out]; exact HO9.out, k9⟩
          case measure => simp [intOf]; omega
        · have e2 := eq_no h2
          rw [if_neg (fun e => h2 e.2)] at HS
          clear h1 h2
          go_wp2_with (at_builtin; refine wpList_append_L (P := Try.prog) (α := Int) rfl _ _ _ rfl 3 (.int .i64 0) 1 8 Try.underlying38 info_int rfl (by decide) w.heap.size ic (.slice oa k oc) ls (-1) wr.heap.size #[.int .i64 (-1)] (by rfl) (by rfl) (HO.out.below ((Below.refl _ _).alloc (Nat.le_refl _) _)) (blk_new wr _) rfl (ic_len _) (ic_one _) (by unfold maxLen; omega) (by omega) (by have := hbw.size; simp; omega) ?_; intro g9 cap w9 ho9 hg9 hat9)
          have k9 : Below w.heap.size w w9 := (hbw.alloc hbw.size _).grown hg9 (by have := hbw.size; simp; omega) (fun j hj => (HO.out.lt j hj).1)
          have HO9 := Lib.hid ho9
          clear ho9 hg9 hat9 hln
          go_wp2
          go_roundw
          case rel => exact ⟨k + 1, some ⟨g9, 0, none⟩, cap, by omega, by go_num, rfl, by unfold Hid; rw [HS.out, ← HLN.out]; exact HO9.out, k9⟩
          case measure => simp [intOf]; omega
      · have e1 := eq_no h1
        rw [if_neg (fun e => h1 e.1)] at HS
        clear h1
        go_wp2_with (at_builtin; refine wpList_append_L (P := Try.prog) (α := Int) rfl _ _ _ rfl 3 (.int .i64 0) 1 8 Try.underlying38 info_int rfl (by decide) w.heap.size ic (.slice oa k oc) ls (-1) wr.heap.size #[.int .i64 (-1)] (by rfl) (by rfl) (HO.out.below ((Below.refl _ _).alloc (Nat.le_refl _) _)) (blk_new wr _) rfl (ic_len _) (ic_one _) (by unfold maxLen; omega) (by omega) (by have := hbw.size; simp; omega) ?_; intro g9 cap w9 ho9 hg9 hat9)
        have k9 : Below w.heap.size w w9 := (hbw.alloc hbw.size _).grown hg9 (by have := hbw.size; simp; omega) (fun j hj => (HO.out.lt j hj).1)
        have HO9 := Lib.hid ho9
        clear ho9 hg9 hat9 hln
        go_wp2
        go_roundw
        case rel => exact ⟨k + 1, some ⟨g9, 0, none⟩, cap, by omega, by go_num, rfl, by unfold Hid; rw [HS.out, ← HLN.out]; exact HO9.out, k9⟩
        case measure => simp [intOf]; omega
    · obtain rfl : k = l.length := by omega
      have HFI := Lib.hid (far0_is l c T)
      generalize far0 l c T l.length = out0 at *
      go_wp2_with fail
      go_loopg [10, 11, 12] (msr l.length out0 + 2) (fun g ag _ _ wr => ∃ (out : List Int) (again : Bool), ag = .bool again ∧ Hid (FarI l c T out) ∧ Hid (OwnL wr w.heap.size 3 1 ic (.slice oa l.length oc) out) ∧ Hid (Below w.heap.size w wr) ∧ Hid ((again = true ∧ msr l.length out + 1 < g) ∨ (again = false ∧ ∀ i k, i < l.length → k < l.length → Okp l c out i k)))
      case atStart => exact ⟨out0, true, rfl, HFI, HO, hbw, .inl ⟨rfl, by omega⟩⟩
      case round =>
        clear HFI HO hbw
        obtain ⟨out1, again, rfl, HF, HO, HB, HA1⟩ := hrel
        rcases HA1.out with ⟨rfl, hg⟩ | ⟨rfl, hok⟩
        · have HG := Lib.hid hg
          clear HA1 hg
          go_wp2_with fail
          go_loopw [10, 11, 12] (fun ag i _ wr => ∃ (i0 : Nat) (out : List Int) (b : Bool), i0 ≤ l.length ∧ ag = .bool b ∧ i = .int .i64 i0 ∧ Hid (FarI l c T out) ∧ Hid (OwnL wr w.heap.size 3 1 ic (.slice oa l.length oc) out) ∧ Hid (Below w.heap.size w wr) ∧ Hid (Pass l c out1 out b i0 0)) (fun _ i _ _ => l.length - (intOf i).toNat)
          case atStart => exact ⟨0, out1, false, by omega, rfl, rfl, HF, HO, HB, .inr ⟨rfl, rfl, fun i k hi => by omega, fun k hk => by omega⟩⟩
          case round =>
            clear HF HO HB
            obtain ⟨i0, outi, agi, hi0, rfl, rfl, HFi, HOi, HBi, HPi⟩ := hrel
            rcases Nat.lt_or_ge i0 l.length with hil | hig
            · have hii : (i0 : Int) < l.length := by omega
              have hii0 : (0 : Int) ≤ (i0 : Int) := by omega
              go_wp2_with fail
              go_loopw [10, 12] (fun ag k wr => ∃ (k0 : Nat) (out : List Int) (b : Bool), k0 ≤ l.length ∧ ag = .bool b ∧ k = .int .i64 k0 ∧ Hid (FarI l c T out) ∧ Hid (OwnL wr w.heap.size 3 1 ic (.slice oa l.length oc) out) ∧ Hid (Below w.heap.size w wr) ∧ Hid (Pass l c out1 out b i0 k0)) (fun _ k _ => l.length - (intOf k).toNat)
              case atStart => exact ⟨0, outi, agi, by omega, rfl, rfl, HFi, HOi, HBi, HPi⟩
              case round =>
                clear HFi HOi HBi HPi
                obtain ⟨k0, out, ag, hk0, rfl, rfl, HF, HO, HB, HP⟩ := hrel
                rcases Nat.lt_or_ge k0 l.length with hkl | hkg
                · have hki : (k0 : Int) < l.length := by omega
                  have hki0 : (0 : Int) ≤ (k0 : Int) := by omega
                  obtain ⟨g, cur, rfl, _, hgB, hgc, hcap, _, _, _⟩ := HO.out.row (by rw [HF.out.len]; omega)
                  obtain ⟨lb, lo, rfl, p0, p1, p2, p3⟩ := at_tr (HA.out.below HB.out) i0 hil
                  obtain ⟨r0, r1, r2, r3⟩ := at_tr' (HA.out.below HB.out) k0 hkl
                  have z0 := own_int_cell HO.out i0 (by rw [HF.out.len]; exact hil)
                  have z1 := own_int_cell HO.out k0 (by rw [HF.out.len]; exact hkl)
                  have hlk := HF.out.low k0 hkl
                  have hli := HF.out.low i0 hil
                  have hat1 : -1 ≤ oi out k0 := by rcases HF.out.at_ k0 hkl with e | ⟨d, e, _⟩ <;> omega
                  have hat2 : -1 ≤ oi out i0 := by rcases HF.out.at_ i0 hil with e | ⟨d, e, _⟩ <;> omega
                  have hcn : cnt out ≤ l.length := by rw [← HF.out.len]; exact List.length_filter_le _ _
                  have HGB := Lib.hid hgB
                  have HL := Lib.hid hcap
                  clear hgB hcap hgc
                  have w1 : IntKind.i64.wrap (oi out k0 + 1) = oi out k0 + 1 := by rw [IntKind.wrap_i64]; omega
                  have HK1 := Lib.hid (show (gt l i0).con = c → (gt l k0).con = c → (gt l i0).to_ = (gt l k0).fr → 0 ≤ oi out k0 → (oi out i0 < 0 ∨ oi out k0 + 1 < oi out i0) → FarI l c T (out.set i0 (oi out k0 + 1)) ∧ msr l.length (out.set i0 (oi out k0 + 1)) < msr l.length out from fun a1 a2 a3 a4 a5 => far_step HF.out hil hkl a1 a2 a3 a4 a5)
                  have HK2 := Lib.hid (show ¬ ((gt l i0).con = c ∧ (gt l k0).con = c ∧ (gt l i0).to_ = (gt l k0).fr ∧ 0 ≤ oi out k0) → Okp l c out i0 k0 from fun h a1 a2 a3 a4 => absurd ⟨a1, a2, a3, a4⟩ h)
                  have HK3 := Lib.hid (show 0 ≤ oi out i0 → oi out i0 ≤ oi out k0 + 1 → Okp l c out i0 k0 from fun h1 h2 _ _ _ _ => ⟨h1, h2⟩)
                  have HNX := Lib.hid (fun v => own_set_int_len HO.out i0 (by rw [HF.out.len]; exact hil) v)
                  generalize gt l i0 = x at *
                  generalize gt l k0 = y at *
                  obtain ⟨xf, xt, xc, xa⟩ := x
                  obtain ⟨yf, yt, yc, ya⟩ := y
                  dsimp only at p0 p1 p2 p3 r0 r1 r2 r3
                  by_cases h1 : xc = c
                  · have e1 := neq_no h1
                    have e1' := eq_yes h1
                    by_cases h2 : yc = c
                    · have e2 := neq_no h2
                      have e2' := eq_yes h2
                      by_cases h3 : xt = yf
                      · have e3 := neq_no h3
                        have e3' := eq_yes h3
                        by_cases h4 : oi out k0 < 0
                        · have e4 : decide (oi out k0 < 0) = true := decide_eq_true h4
                          have HP2 := Lib.hid (pass_ok HP.out (HK2.out (fun e => by omega)))
                          clear h1 h2 h3 h4 HK1 HK2 HK3 HP HNX hat1 hat2 hlk hli hcn HL HGB
                          go_wp2_with fail
                          go_big_quiet (fail)
                          go_wp2
                          go_roundw
                          case rel => exact ⟨k0 + 1, out, ag, by omega, rfl, by go_num, HF, Lib.hid (HO.out.below (below_drewN (Below.refl _ _) _)), Lib.hid (below_drewN HB.out _), HP2⟩
                          case measure => simp [intOf]; omega
                        · have e4 : decide (oi out k0 < 0) = false := decide_eq_false h4
                          by_cases h5 : oi out i0 < 0
                          · have e5 : decide (oi out i0 < 0) = true := decide_eq_true h5
                            obtain ⟨HF2, HM2⟩ := HK1.out h1 h2 h3 (by omega) (.inl h5)
                            have HF2 := Lib.hid HF2
                            have HP2 := Lib.hid (pass_set HP.out HM2)
                            have HNV := Lib.hid (fun n => own_set_drew HO.out HF.out.len i0 hil (oi out k0 + 1) n)
                            have HNB := Lib.hid (fun n => ((below_drewN HB.out n).setCell (p := ⟨g, i0, none⟩) HGB.out (.int .i64 (oi out k0 + 1))))
                            have HFZ := Lib.hid (fun n => own_frozen HO.out i0 n)
                            clear h1 h2 h3 h4 h5 HK1 HK2 HK3 HP HNX hat1 hat2 hlk hli hcn HL HGB HM2
                            try clear h6
                            go_wp2_with fail
                            go_big_quiet (fail)
                            go_wp2_with fail
                            go_big_quiet (fail)
                            have f0 := HFZ.out
                            go_wp2
                            go_roundw
                            case rel => exact ⟨k0 + 1, out.set i0 (oi out k0 + 1), true, by omega, rfl, by go_num, HF2, Lib.hid (HNV.out _), Lib.hid (HNB.out _), HP2⟩
                            case measure => simp [intOf]; omega
                          · have e5 : decide (oi out i0 < 0) = false := decide_eq_false h5
                            by_cases h6 : oi out k0 + 1 < oi out i0
                            · have e6 : decide (oi out k0 + 1 < oi out i0) = true := decide_eq_true h6
                              obtain ⟨HF2, HM2⟩ := HK1.out h1 h2 h3 (by omega) (.inr h6)
                              have HF2 := Lib.hid HF2
                              have HP2 := Lib.hid (pass_set HP.out HM2)
                              have HNV := Lib.hid (fun n => own_set_drew HO.out HF.out.len i0 hil (oi out k0 + 1) n)
                              have HNB := Lib.hid (fun n => ((below_drewN HB.out n).setCell (p := ⟨g, i0, none⟩) HGB.out (.int .i64 (oi out k0 + 1))))
                              have HFZ := Lib.hid (fun n => own_frozen HO.out i0 n)
                              clear h1 h2 h3 h4 h5 HK1 HK2 HK3 HP HNX hat1 hat2 hlk hli hcn HL HGB HM2
                              try clear h6
                              go_wp2_with fail
                              go_big_quiet (fail)
                              go_wp2_with fail
                              go_big_quiet (fail)
                              have f0 := HFZ.out
                              go_wp2
                              go_roundw
                              case rel => exact ⟨k0 + 1, out.set i0 (oi out k0 + 1), true, by omega, rfl, by go_num, HF2, Lib.hid (HNV.out _), Lib.hid (HNB.out _), HP2⟩
                              case measure => simp [intOf]; omega
                            · have e6 : decide (oi out k0 + 1 < oi out i0) = false := decide_eq_false h6
                              have HP2 := Lib.hid (pass_ok HP.out (HK3.out (by omega) (by omega)))
                              clear h1 h2 h3 h4 h5 h6 HK1 HK2 HK3 HP HNX hat1 hat2 hlk hli hcn HL HGB
                              go_wp2_with fail
                              go_big_quiet (fail)
                              go_wp2_with fail
                              go_big_quiet (fail)
                              go_wp2
                              go_roundw
                              case rel => exact ⟨k0 + 1, out, ag, by omega, rfl, by go_num, HF, Lib.hid (HO.out.below (below_drewN (Below.refl _ _) _)), Lib.hid (below_drewN HB.out _), HP2⟩
                              case measure => simp [intOf]; omega
                      · have e3 := neq_yes h3
                        have e3' := eq_no h3
                        have HP2 := Lib.hid (pass_ok HP.out (HK2.out (fun e => h3 e.2.2.1)))
                        clear h1 h2 h3 HK1 HK2 HK3 HP HNX hat1 hat2 hlk hli hcn HL HGB w1
                        go_wp2_with fail
                        go_big_quiet (fail)
                        go_wp2
                        go_roundw
                        case rel => exact ⟨k0 + 1, out, ag, by omega, rfl, by go_num, HF, Lib.hid (HO.out.below (below_drewN (Below.refl _ _) _)), Lib.hid (below_drewN HB.out _), HP2⟩
                        case measure => simp [intOf]; omega
                    · have e2 := neq_yes h2
                      have e2' := eq_no h2
                      have HP2 := Lib.hid (pass_ok HP.out (HK2.out (fun e => h2 e.2.1)))
                      clear h1 h2 HK1 HK2 HK3 HP HNX hat1 hat2 hlk hli hcn HL HGB w1
                      go_wp2_with fail
                      go_big_quiet (fail)
                      go_wp2
                      go_roundw
                      case rel => exact ⟨k0 + 1, out, ag, by omega, rfl, by go_num, HF, Lib.hid (HO.out.below (below_drewN (Below.refl _ _) _)), Lib.hid (below_drewN HB.out _), HP2⟩
                      case measure => simp [intOf]; omega
                  · have e1 := neq_yes h1
                    have e1' := eq_no h1
                    have HP2 := Lib.hid (pass_ok HP.out (HK2.out (fun e => h1 e.1)))
                    clear h1 HK1 HK2 HK3 HP HNX hat1 hat2 hlk hli hcn HL HGB w1
                    go_wp2_with fail
                    go_big_quiet (fail)
                    go_wp2
                    go_roundw
                    case rel => exact ⟨k0 + 1, out, ag, by omega, rfl, by go_num, HF, Lib.hid (HO.out.below (below_drewN (Below.refl _ _) _)), Lib.hid (below_drewN HB.out _), HP2⟩
                    case measure => simp [intOf]; omega
                · obtain rfl : k0 = l.length := by omega
                  have HP2 := Lib.hid (pass_row HP.out)
                  clear HP hkg hk0
                  go_wp2
                  go_roundw
                  case rel => exact ⟨i0 + 1, out, ag, by omega, rfl, by go_num, HF, HO, HB, HP2⟩
                  case measure => simp [intOf]; omega
            · obtain rfl : i0 = l.length := by omega
              go_wp2
              rcases HPi.out with ⟨rfl, hm⟩ | ⟨rfl, rfl, hok, _⟩
              · go_roundg (gk - 1)
                case measure => have := HG.out; omega
                case rel => exact ⟨outi, true, rfl, HFi, HOi, HBi, .inl ⟨rfl, by have := HG.out; omega⟩⟩
              · go_roundg (gk - 1)
                case measure => have := HG.out; omega
                case rel => exact ⟨outi, false, rfl, HFi, HOi, HBi, .inr ⟨rfl, fun i k hi hk => hok i k hi hk⟩⟩
        · have HR := Lib.hid (far_end HF.out hok)
          clear HA1 hok
          go_wp2
          go_ret
          exact ⟨oa, oc, out1, rfl, HR.out, HO.out, HB.out⟩
end Go.Proofs.Ytpphiohppgphnaa.Cs
