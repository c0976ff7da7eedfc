/-
  Compress: the walks of the laws CompressTells and CompressResults.
-/
import Derived.Test.YtpphiohppgphnaaCvO
namespace Go.Proofs.Ytpphiohppgphnaa.Cs
open Go.RowKit Go.Proofs.Ytpphiohppgphnaa Go.Proofs.Ytpphiohppgphnaa.Ls Go.Proofs.Ytpphiohppgphnaa.Kb Go.Proofs.Ytpphiohppgphnaa.Cz
open Go.Proofs.Ytpphiohppgphnaa.Nm hiding ret_bool ret_int hb'

set_option maxRecDepth 100000 in
set_option maxHeartbeats 4000000 in
theorem tells_walk {W : World} (a : Option Addr) (c : Nat) (l : List Tr) (hZ : SzT l ∧ l.length ≤ maxLen) (hA : AtL W 4 trc a l) (p : ByteArray) (hp : p.size ≤ maxLen) (t : ByteArray) (ht : t.size ≤ maxLen) :
    Calls Try.prog 4 #[.slice a l.length c, .string p, .string t] W fun e W' => e = .returned (.bool true) ∧ Below W.heap.size W W' := by
  obtain ⟨hZ, hml⟩ := hZ
  have HG := Lib.hid (great_any a c l W hml hA)
  rcases hb (greatT l) with hg | hg
  · rw [hg] at HG
    go_enter Try.func4, Try.ntmps4
    go_wp2_with fail
    refine HG.out.mono ?_
    rintro e w1 ⟨rfl, rfl⟩
    go_wp2
    go_ret
    exact ⟨rfl, Below.refl _ _⟩
  · have hgn := great_no hg
    rw [hg] at HG
    have hl210 := hgn.2.1
    have hn : l.length ≤ 1000000 := by omega
    have HNT := Lib.hid (fun (v : World) (hv : Below W.heap.size W v) => net_any a c l p t v hn hZ hp ht (hA.below hv))
    have HRN := Lib.hid (fun (v : World) (hv : Below W.heap.size W v) => rnet_any a c l p t v hn hZ hp ht (hA.below hv))
    have HGR := Lib.hid (fun (v : World) (hv : Below W.heap.size W v) => gross_any a c l v hn hZ (hA.below hv))
    have HRG := Lib.hid (fun (v : World) (hv : Below W.heap.size W v) => rgross_any a c l v hn hZ (hA.below hv))
    obtain ⟨r, e0, hr⟩ := cycR_exists l
    have HCY := Lib.hid (fun (v : World) (hv : Below W.heap.size W v) => cycle_any a c l r e0 v (by omega) hZ (hA.below hv) hr)
    have HRC := Lib.hid (fun (v : World) (hv : Below W.heap.size W v) => rcycle_any a c l r e0 v hn hZ (hA.below hv) hr)
    have HCH := Lib.hid (fun (v : World) (hv : Below W.heap.size W v) => check_any a c l v hn hZ (hA.below hv))
    have HRH := Lib.hid (fun (v : World) (hv : Below W.heap.size W v) => rcheck_any a c l v hn hZ (hA.below hv))
    have hrl : r.length ≤ 1000 := by
      cases hr with
      | bad h => simp
      | none h hr => simp
      | some h x r hr =>
        have hv : vldB l = true := by
          rcases chk_cases l with ⟨_, h1, _⟩ | h1 | h1
          · exact h1
          · rw [h] at h1; cases h1
          · rw [h] at h1; cases h1
        have := cyc_len (cyc_first hv hr)
        omega
    clear hr hgn hg hA
    go_enter Try.func4, Try.ntmps4
    by_cases h1 : (1000 : Int) < p.size
    · go_wp2_with fail
      refine HG.out.mono ?_
      rintro e w1 ⟨rfl, rfl⟩
      go_wp2
      go_ret
      exact ⟨rfl, Below.refl _ _⟩
    · by_cases h2 : (1000 : Int) < t.size
      · go_wp2_with fail
        refine HG.out.mono ?_
        rintro e w1 ⟨rfl, rfl⟩
        go_wp2
        go_ret
        exact ⟨rfl, Below.refl _ _⟩
      · go_wp2_with fail
        refine HG.out.mono ?_
        rintro e w1 ⟨rfl, hw1⟩
        have HB0 := Lib.hid (show Below W.heap.size W w1 by rw [hw1]; exact Below.refl _ _)
        clear hw1 HG
        go_wp2_with fail
        refine (HNT.out w1 HB0.out).mono ?_
        rintro e w2 ⟨rfl, hb⟩
        have HB2 := Lib.hid (bt HB0.out hb (Nat.le_refl _))
        clear hb HB0
        go_wp2_with fail
        refine (HRN.out w2 HB2.out).mono ?_
        rintro e w3 ⟨rfl, hb⟩
        have HB3 := Lib.hid (bt HB2.out hb (Nat.le_refl _))
        clear hb HB2
        go_wp2_with fail
        refine (HGR.out w3 HB3.out).mono ?_
        rintro e w4 ⟨rfl, hb⟩
        have HB4 := Lib.hid (bt HB3.out hb (Nat.le_refl _))
        clear hb HB3
        go_wp2_with fail
        refine (HRG.out w4 HB4.out).mono ?_
        rintro e w5 ⟨rfl, hb⟩
        have HB5 := Lib.hid (bt HB4.out hb (Nat.le_refl _))
        clear hb HB4
        go_wp2_with fail
        refine (HCY.out w5 HB5.out).mono ?_
        rintro e w6 ⟨a6, c6, rfl, ho6, hb⟩
        have HB6 := Lib.hid (bt HB5.out hb (Nat.le_refl _))
        have HO6 := Lib.hid ho6
        clear hb HB5 ho6
        go_wp2_with fail
        refine (HRC.out w6 HB6.out).mono ?_
        rintro e w7 ⟨a7, c7, rfl, ho7, hb⟩
        have HB7 := Lib.hid (bt HB6.out hb (Nat.le_refl _))
        have HSI := Lib.hid (sints_any a6 a7 c6 c7 (il r) (il r) r.length r.length w7 (il_len r) (il_len r) (by omega) ((HO6.out.below hb).sl ic_len).1 (ho7.sl ic_len).1)
        clear hb HB6 ho7 HO6
        go_wp2_with fail
        refine HSI.out.mono ?_
        rintro e w8 ⟨rfl, hb⟩
        have HB8 := Lib.hid (bt HB7.out hb (Nat.le_refl _))
        clear hb HB7 HSI
        go_wp2_with fail
        refine (HCH.out w8 HB8.out).mono ?_
        rintro e w9 ⟨rfl, hb⟩
        have HB9 := Lib.hid (bt HB8.out hb (Nat.le_refl _))
        clear hb HB8
        go_wp2_with fail
        refine (HRH.out w9 HB9.out).mono ?_
        rintro e w10 ⟨rfl, hb⟩
        have HB10 := Lib.hid (bt HB9.out hb (Nat.le_refl _))
        clear hb HB9
        go_wp2
        go_ret
        exact ⟨rfl, HB10.out⟩
end Go.Proofs.Ytpphiohppgphnaa.Cs
