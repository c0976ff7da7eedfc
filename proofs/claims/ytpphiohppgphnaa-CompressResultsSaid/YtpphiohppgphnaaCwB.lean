/-
  Compress: the walk of the law CompressResults.
-/
import Derived.Test.YtpphiohppgphnaaCvO
import Derived.Test.YtpphiohppgphnaaLs3
namespace Go.Proofs.Ytpphiohppgphnaa.Cs
open Go.RowKit Go.Proofs.Ytpphiohppgphnaa Go.Proofs.Ytpphiohppgphnaa.Ls Go.Proofs.Ytpphiohppgphnaa.Kb Go.Proofs.Ytpphiohppgphnaa.Cz
open Go.Proofs.Ytpphiohppgphnaa.Nm hiding ret_bool ret_int hb'

theorem cmp_len {l out : List Tr} (h : Cmp l out) : vldB l = true → out.length ≤ l.length := by
  induction h with
  | stop l h => exact fun _ => Nat.le_refl _
  | go l x r out h k ih =>
    intro hv
    have hc := cyc_first hv h
    have := torn_less hv hc
    have := ih (torn_vld hv hc)
    omega
theorem comR_len {l out : List Tr} {e0 : Int} (h : ComR l out e0) : out.length ≤ l.length := by
  cases h with
  | bad h => simp
  | ok h out k =>
    refine cmp_len k ?_
    rcases chk_cases l with ⟨_, h1, _⟩ | h1 | h1
    · exact h1
    · rw [h] at h1; cases h1
    · rw [h] at h1; cases h1
set_option maxRecDepth 100000 in
set_option maxHeartbeats 4000000 in
theorem results_walk {W : World} (a : Option Addr) (c : Nat) (l : List Tr) (hZ : SzT l ∧ l.length ≤ maxLen) (hA : AtL W 4 trc a l) :
    Calls Try.prog 3 #[.slice a l.length c] W fun e W' => e = .returned (.bool true) ∧ Below W.heap.size W W' := by
  obtain ⟨hZ, hml⟩ := hZ
  have HG := Lib.hid (great_any a c l W hml hA)
  rcases hb (greatT l) with hg | hg
  · rw [hg] at HG
    go_enter Try.func3, Try.ntmps3
    go_wp2_with fail
    refine HG.out.mono ?_
    rintro e w1 ⟨rfl, rfl⟩
    go_wp2
    go_ret
    exact ⟨rfl, Below.refl _ _⟩
  · have hgn := great_no hg
    rw [hg] at HG
    have hl210 := hgn.2.1
    have hn : l.length ≤ 1000000 := by omega
    have HA := Lib.hid hA
    obtain ⟨out, e0, hr⟩ := comR_exists l
    have hol := comR_len hr
    have HCO := Lib.hid (fun (v : World) (hv : Below W.heap.size W v) => compress_any a c l out e0 v (by omega) hZ (hA.below hv) hr)
    have HRC := Lib.hid (fun (v : World) (hv : Below W.heap.size W v) => rcompress_any a c l out e0 v hn hZ (hA.below hv) hr)
    clear hr hgn hg hA
    go_enter Try.func3, Try.ntmps3
    go_wp2_with fail
    refine HG.out.mono ?_
    rintro e w1 ⟨rfl, hw1⟩
    have HB1 := Lib.hid (show Below W.heap.size W w1 by rw [hw1]; exact Below.refl _ _)
    clear hw1 HG
    go_wp2_with (at_builtin; refine wpList_append_LN (w1.alloc (.cells #[] 31)) (P := Try.prog) (α := Tr) rfl _ _ _ rfl 31 (.agg #[.string ⟨#[]⟩, .string ⟨#[]⟩, .string ⟨#[]⟩, .int .i64 0]) 4 56 Try.underlying22 info_tr rfl (by decide) w1.heap.size trc trc_len trc_one (.slice (some ⟨w1.heap.size, 0, none⟩) 0 0) [] l a c rfl l.length rfl rfl (OwnL.empty (blk_new w1 (.cells #[] 31)) (Nat.le_refl _)) ((HA.out.below HB1.out).below ((Below.refl _ _).alloc (Nat.le_refl _) _)) (by simp <;> unfold maxLen <;> omega) (by simp <;> omega) (by simp) ?_; intro a3 c3 w4 ho4 hg4)
    have hb4 : Below w1.heap.size w1 w4 := ((Below.refl _ _).alloc (Nat.le_refl _) (.cells #[] 31)).grown hg4 (by simp) (fun k hk => by simp [Value.ownBlock] at hk; omega)
    have C4 := Lib.hid (bt HB1.out hb4 (Nat.le_refl _))
    have HO4 := Lib.hid (show AtL w4 4 trc a3 l by
      have h := ho4
      rw [List.length_nil, Nat.zero_add, List.nil_append] at h
      exact (h.sl trc_len).1)
    clear ho4 hg4 hb4 HB1
    go_wp2_with fail
    refine (HCO.out w4 C4.out).mono ?_
    rintro e w5 ⟨a5, c5, rfl, ho5, hb5⟩
    have C5 := Lib.hid (bt C4.out hb5 (Nat.le_refl _))
    have HB45 := Lib.hid hb5
    have HO5 := Lib.hid ho5
    clear ho5 hb5
    go_wp2_with fail
    refine (HRC.out w5 C5.out).mono ?_
    rintro e w6 ⟨a6, n6, c6, rfl, rfl, ho6, hb6⟩
    have C6 := Lib.hid (bt C5.out hb6 (Nat.le_refl _))
    have HB46 := Lib.hid (bt HB45.out hb6 (Nat.le_refl _))
    have HO56 := Lib.hid (HO5.out.below hb6)
    have HSM := Lib.hid (same_any a5 a6 c5 c6 out out out.length out.length w6 rfl rfl (by omega) (HO56.out.sl trc_len).1 (ho6.sl trc_len).1)
    clear ho6 hb6 HO5 C5 HB45
    go_wp2_with fail
    refine HSM.out.mono ?_
    rintro e w7 ⟨rfl, hb7⟩
    have C7 := Lib.hid (bt C6.out hb7 (Nat.le_refl _))
    have HB47 := Lib.hid (bt HB46.out hb7 (Nat.le_refl _))
    have HO7 := Lib.hid (HO56.out.below hb7)
    clear HSM HO56 C6 HB46 hb7
    go_wp2_with fail
    go_loopw [9] (fun i wx => ∃ (K : Nat) (xs : List Tr), K ≤ out.length ∧ i = .int .i64 K ∧ xs.length = out.length ∧ Hid (OwnL wx w4.heap.size 31 4 trc (.slice a5 out.length c5) xs) ∧ Hid (Below w4.heap.size w4 wx)) (fun i _ => out.length - (intOf i).toNat)
    case atStart => exact ⟨0, out, by omega, rfl, rfl, HO7, HB47⟩
    case round =>
      clear HO7 HB47 C7
      obtain ⟨K, xs, hK, rfl, hxl, HO, HB⟩ := hrel
      rcases Nat.lt_or_ge K out.length with hkl | hge
      · have hki : (K : Int) < out.length := by omega
        have hk0 : (0 : Int) ≤ (K : Int) := by omega
        have hO := HO.out
        rw [← hxl] at hO
        obtain ⟨g, _, rfl, _⟩ := hO.row (by omega)
        have q3 := (at_tr' (hO.sl trc_len).1 K (by omega)).2.2.2
        rw [Nat.zero_add] at q3
        have hcap := (hO.sl trc_len).2.2
        have fz := (hO.there (K * 4 + 3) (by have : (K + 1) * 4 ≤ c5 * 4 := Nat.mul_le_mul_right _ (by omega); omega)).2
        have HW := Lib.hid (own_setAmt hO (i := K) (by omega) (-7))
        have HWB := Lib.hid (HB.out.setCell (p := ⟨g, K * 4 + 3, none⟩) (hO.lt g rfl).1 (.int .i64 (-7)))
        clear hO hcap
        go_wp2_with fail
        go_roundw
        case rel => exact ⟨K + 1, setAmt xs K (-7), by omega, by go_num, by rw [setAmt_len]; exact hxl, by rw [← hxl]; exact HW, HWB⟩
        case measure => simp [intOf]; omega
      · have HSM := Lib.hid (same_any a a3 c c3 l l l.length l.length wr rfl rfl (by omega) ((HA.out.below C4.out).below HB.out) (HO4.out.below HB.out))
        have CB := Lib.hid (C4.out.trans (HB.out.mono C4.out.size))
        clear HA HO4 HB C4 HO
        go_wp2_with fail
        refine HSM.out.mono ?_
        rintro e w8 ⟨rfl, hb8⟩
        have CC := Lib.hid (bt CB.out hb8 (Nat.le_refl _))
        clear hb8 CB HSM
        go_wp2
        go_ret
        exact ⟨rfl, CC.out⟩
end Go.Proofs.Ytpphiohppgphnaa.Cs
