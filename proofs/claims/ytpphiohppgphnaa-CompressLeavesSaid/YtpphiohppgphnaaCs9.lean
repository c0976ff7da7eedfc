/-
  Compress: the walk of the reference's Compress.
-/
import Derived.Test.YtpphiohppgphnaaCt1
import Derived.Test.YtpphiohppgphnaaLs3
namespace Go.Proofs.Ytpphiohppgphnaa.Cs
open Go.RowKit Go.Proofs.Ytpphiohppgphnaa Go.Proofs.Ytpphiohppgphnaa.Ls Go.Proofs.Ytpphiohppgphnaa.Kb Go.Proofs.Ytpphiohppgphnaa.Cz
open Go.Proofs.Ytpphiohppgphnaa.Nm hiding ret_bool ret_int hb'

def slen : Value → Nat
  | .slice _ n _ => n
  | _ => 0
theorem cmp_cases {l out : List Tr} (h : Cmp l out) : (First l [] ∧ l = out) ∨ ∃ x r, First l (x :: r) ∧ Cmp (torn l (x :: r)) out := by
  cases h with
  | stop _ h => exact .inl ⟨h, rfl⟩
  | go _ x r _ h k => exact .inr ⟨x, r, h, k⟩
set_option maxRecDepth 100000 in
set_option maxHeartbeats 8000000 in
theorem rcompress_any (a : Option Addr) (cL : Nat) (l out : List Tr) (e0 : Int) (w : World) (hn : l.length ≤ 1000000) (hZ : SzT l) (hA : AtL w 4 trc a l) (hr : ComR l out e0) :
    Calls Try.prog 12 #[.slice a l.length cL] w fun e w' => ∃ a' n' c', e = .returned (.tuple #[.slice a' n' c', .int .i64 e0]) ∧ n' = out.length ∧ OwnL w' w.heap.size 31 4 trc (.slice a' n' c') out ∧ Below w.heap.size w w' := by
  have HC := Lib.hid (rcheck_any a cL l w hn hZ hA)
  have HA := Lib.hid hA
  have HZ := Lib.hid hZ
  clear hA hZ
  cases hr with
  | bad h =>
    have h1 : chkE l = 4 ∨ chkE l = 8 := by
      rcases chk_cases l with ⟨h0, _⟩ | h1 | h1
      · exact absurd h0 h
      · exact .inl h1
      · exact .inr h1
    rcases h1 with h1 | h1
    all_goals
      rw [h1] at HC ⊢
      clear h h1 HA HZ
      go_enter Try.func12, Try.ntmps12
      go_wp2_with fail
      refine HC.out.mono ?_
      rintro e w1 ⟨rfl, hb1⟩
      go_wp2
      go_ret2
      exact ⟨none, 0, 0, rfl, rfl, OwnL.nil _ _ _ _ _, hb1⟩
  | ok h out k =>
    have HV := Lib.hid (show vldB l = true by
      rcases chk_cases l with ⟨_, h1, _⟩ | h1 | h1
      · exact h1
      · rw [h] at h1; cases h1
      · rw [h] at h1; cases h1)
    rw [h] at HC
    have HK := Lib.hid k
    clear h k
    go_enter Try.func12, Try.ntmps12
    go_wp2_with fail
    refine HC.out.mono ?_
    rintro e w1 ⟨rfl, hb1⟩
    have C1 := Lib.hid hb1
    clear HC hb1
    go_wp2_with (at_builtin; refine wpList_append_LN (w1.alloc (.cells #[] 31)) (P := Try.prog) (α := Tr) rfl _ _ _ rfl 31 (.agg #[.string ⟨#[]⟩, .string ⟨#[]⟩, .string ⟨#[]⟩, .int .i64 0]) 4 56 Try.underlying22 info_tr rfl (by decide) w1.heap.size trc trc_len trc_one (.slice (some ⟨w1.heap.size, 0, none⟩) 0 0) [] l a cL rfl l.length rfl rfl (OwnL.empty (blk_new w1 (.cells #[] 31)) (Nat.le_refl _)) ((HA.out.below C1.out).below ((Below.refl _ _).alloc (Nat.le_refl _) _)) (by simp <;> unfold maxLen <;> omega) (by simp <;> omega) (by simp) ?_; intro a3 c3 w4 ho4 hg4)
    have hb4 : Below w1.heap.size w1 w4 := ((Below.refl _ _).alloc (Nat.le_refl _) (.cells #[] 31)).grown hg4 (by simp) (fun k hk => by simp [Value.ownBlock] at hk; omega)
    have C4 := Lib.hid (bt C1.out hb4 (Nat.le_refl _))
    have HO4 := Lib.hid (show OwnL w4 w.heap.size 31 4 trc (.slice a3 l.length c3) l by
      have h := ho4.lower' C1.out.size
      rw [List.length_nil, Nat.zero_add, List.nil_append] at h
      exact h)
    clear ho4 hg4 hb4
    go_loopw [5, 6] (fun o _ wr => ∃ (cur : List Tr) (n0 : Nat) (oa : Option Addr) (oc : Nat), o = .slice oa n0 oc ∧ n0 = cur.length ∧ n0 ≤ 1000000 ∧ Hid (OwnL wr w.heap.size 31 4 trc (.slice oa n0 oc) cur) ∧ Hid (Cmp cur out) ∧ Hid (vldB cur = true) ∧ Hid (SzT cur) ∧ Hid (Below w.heap.size w wr)) (fun o _ _ => slen o)
    case atStart => exact ⟨l, l.length, a3, c3, rfl, rfl, hn, HO4, HK, HV, HZ, C4⟩
    case round =>
      clear HO4 HK HV HZ C4 C1 HA hn
      obtain ⟨cur, n0, oa, oc, rfl, hn0, hn, HO, HK, HV, HZ, HB⟩ := hrel
      subst hn0
      have HA := Lib.hid (HO.out.sl trc_len).1
      rcases cmp_cases HK.out with ⟨h, he⟩ | ⟨x, r, h, k⟩
      · have HE := Lib.hid he
        clear he
        have HF := Lib.hid (rfirst_any oa oc cur [] wr hn HA.out h)
        clear h HK
        go_wp2_with fail
        refine HF.out.mono ?_
        rintro e w2 ⟨a', c', rfl, ho2, hb2⟩
        have C2 := Lib.hid (bt HB.out hb2 (Nat.le_refl _))
        have HO2 := Lib.hid (HO.out.below hb2)
        clear HF HO ho2 hb2
        simp only [List.length_nil]
        go_wp2
        go_ret2
        rw [← HE.out]
        exact ⟨oa, cur.length, oc, rfl, rfl, HO2.out, C2.out⟩
      · have HY := Lib.hid (cyc_first HV.out h)
        have HF := Lib.hid (rfirst_any oa oc cur (x :: r) wr hn HA.out h)
        have HKK := Lib.hid k
        have hl : ((((x :: r).length : Nat) : Int) == 0) = false := by rw [beq_eq_false_iff_ne, List.length_cons]; omega
        clear h k HK
        generalize x :: r = cs at *
        have HCL := Lib.hid (Nat.le_trans (cyc_len HY.out) hn)
        have HT := Lib.hid (fun (a b : Option Addr) (cL cC : Nat) (w : World) => rtorn_any a b cL cC cur cs w hn HCL.out HY.out.nodup HY.out.lt (fun i hi => (okT_at HV.out i hi).2.2.2.2))
        have HV2 := Lib.hid (torn_vld HV.out HY.out)
        have HZ2 := Lib.hid (szT_torn HZ.out HV.out HY.out)
        have HL2 := Lib.hid (torn_less HV.out HY.out)
        generalize torn cur cs = nx at *
        clear HV HZ HCL HY
        go_wp2_with fail
        refine HF.out.mono ?_
        rintro e w2 ⟨a', c', rfl, ho2, hb2⟩
        have C2 := Lib.hid (bt HB.out hb2 (Nat.le_refl _))
        have HA2 := Lib.hid (HA.out.below hb2)
        have HI2 := Lib.hid (ho2.sl ic_len).1
        clear HF HO ho2 hb2
        go_wp2_with fail
        refine (HT.out oa a' oc c' w2 HA2.out HI2.out).mono ?_
        rintro e w3 ⟨a3, n3, c3, rfl, hn3, ho3, hb3⟩
        have HO3 := Lib.hid (ho3.lower' C2.out.size)
        have C3 := Lib.hid (bt C2.out hb3 (Nat.le_refl _))
        have HN3 := Lib.hid hn3
        clear ho3 hb3 hn3 HT
        go_wp2
        go_roundw
        case rel => exact ⟨nx, n3, a3, c3, rfl, HN3.out, by rw [HN3.out]; have := HL2.out; omega, HO3, HKK, HV2, HZ2, C3⟩
        case measure => show n3 < cur.length; rw [HN3.out]; exact HL2.out
end Go.Proofs.Ytpphiohppgphnaa.Cs
