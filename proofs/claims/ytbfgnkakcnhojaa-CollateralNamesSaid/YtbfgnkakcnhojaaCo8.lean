/-
  Collateral: the walk of the iterator that collateral.all returns.
-/
import Derived.Test.YtbfgnkakcnhojaaCo7
namespace Go.Proofs.Ytbfgnkakcnhojaa.Co
open Go.RowKit Go.Proofs.Ytbfgnkakcnhojaa Go.Proofs.Ytbfgnkakcnhojaa.Ls Go.Proofs.Ytbfgnkakcnhojaa.Kb
open Go.Proofs.Ytbfgnkakcnhojaa.Nm hiding ret_bool ret_int
attribute [local go_sem] Oper.semAt_some

theorem grown_of {w w' : World} (h : Below w.heap.size w w') : w.grownBy w' none := ⟨h.os, h.tape, h.output, h.size, fun i hi _ => h.block i hi⟩
def encG (x : Int × Int) : Array Value := #[.int .i64 x.1, .int .i64 x.2]
/-- what stays as it was while a round runs: what is no row of cells; some blocks; all that is older than the caller -/
def KpG (base : Nat) (bs : List Nat) (W W' : World) : Prop := KeepsWalks W W' ∧ (∀ b ∈ bs, W'.heap[b]? = W.heap[b]?) ∧ Below base W W'
theorem KpG.t {base : Nat} {bs : List Nat} {A B C : World} (h : KpG base bs A B) (k : KpG base bs B C) : KpG base bs A C := ⟨h.1.trans k.1, fun b hb => (k.2.1 b hb).trans (h.2.1 b hb), h.2.2.trans k.2.2⟩

/-- what the iterator needs: the caller's word, its own blocks, its map -/
structure StA (wb : World) (J : List (Int × Int) → World → Prop) (B0 B1 : Nat) (o0 o1 : Obj) (pre : List (Int × Int)) (b n : Nat) (m : ByteArray → Int) (v : World) : Prop where
  j : J pre v
  bel : Below wb.heap.size wb v
  b0 : v.heap[B0]? = some o0
  b1 : v.heap[B1]? = some o1
  mp : MapIs v b n m
theorem StA.below {wb : World} {B : Nat} {J : List (Int × Int) → World → Prop} {B0 B1 : Nat} {o0 o1 : Obj} {pre : List (Int × Int)} {b n : Nat} {m : ByteArray → Int} {v w : World} (hJ : AbidesFrom B J) (h : StA wb J B0 B1 o0 o1 pre b n m v) (hb : Below v.heap.size v w) : StA wb J B0 B1 o0 o1 pre b n m w :=
  ⟨hJ _ _ _ none h.j (grown_of hb) (by simp), bt h.bel hb (Nat.le_refl _), blk_keep h.b0 hb, blk_keep h.b1 hb, h.mp.kept (grown_of hb) (by simp)⟩
theorem StA.put {wb : World} {B : Nat} {J : List (Int × Int) → World → Prop} {B0 B1 : Nat} {o0 o1 : Obj} {pre : List (Int × Int)} {b n n' : Nat} {m m' : ByteArray → Int} {v w : World} (hJ : AbidesFrom B J) (hB : B ≤ b) (hwb : wb.heap.size ≤ B) (h0 : B0 ≠ b) (h1 : B1 ≠ b) (h : StA wb J B0 B1 o0 o1 pre b n m v) (hg : v.grownBy w (some b)) (hm : MapIs w b n' m') : StA wb J B0 B1 o0 o1 pre b n' m' w :=
  ⟨hJ _ _ _ (some b) h.j hg (fun r e => by cases e; exact ⟨hB, h.mp.walk⟩), h.bel.grown hg h.bel.size (fun r e => by cases e; omega), by rw [hg.block B0 (blk_lt h.b0) (fun e => h0 (Option.some.inj e)), h.b0], by rw [hg.block B1 (blk_lt h.b1) (fun e => h1 (Option.some.inj e)), h.b1], hm⟩
theorem StA.round {wb : World} {J J' : List (Int × Int) → World → Prop} {B0 B1 : Nat} {o0 o1 : Obj} {pre pre' : List (Int × Int)} {b n : Nat} {m : ByteArray → Int} {v w : World} (h : StA wb J B0 B1 o0 o1 pre b n m v) (hj : J' pre' w) (hk : KpG wb.heap.size [B0, B1] v w) : StA wb J' B0 B1 o0 o1 pre' b n m w :=
  ⟨hj, h.bel.trans hk.2.2, by rw [hk.2.1 B0 (by simp), h.b0], by rw [hk.2.1 B1 (by simp), h.b1], by
    obtain ⟨o, ho, hw⟩ := h.mp.walk
    refine h.mp.blk ?_
    rw [hk.1.same b o ho hw, ho]⟩

theorem wf_of {x : Int} (h : -9223372036854775808 ≤ x) (h2 : x ≤ 9223372036854775807) : (Lit.int .i64 x).wf = true := by
  simp [Lit.wf, show IntKind.i64.min = -9223372036854775808 from rfl, show IntKind.i64.max = 9223372036854775807 from rfl]
  omega


set_option maxRecDepth 100000 in
set_option maxHeartbeats 4000000 in
theorem all_in (aA aI aL : Option Addr) (cA cI cL : Nat) (A : List As) (I L : List (ByteArray × Int)) (B0 B1 l N : Nat) (J Jx : List (Int × Int) → World → Prop) (wb W : World) (hF : Fits A I L) (hZA : SzA A) (hZI : SzL I) (hN : 1 ≤ N)
    (hA : AtL wb 6 asc aA A) (hI : AtL wb 2 isc aI I) (hL : AtL wb 2 isc aL L) (hbel : Below wb.heap.size wb W)
    (h0 : W.heap[B0]? = some (.cells #[.slice aA A.length cA, .slice aI I.length cI] 25 (0, 0))) (h1 : W.heap[B1]? = some (.cells #[.slice aL L.length cL] 26 (0, 0)))
    (hJ : AbidesFrom W.heap.size J) (_hJx : AbidesFrom W.heap.size Jx)
    (hY : ∀ pre x W1, J pre W1 → pre.length < L.length → YieldAt Fence.wide (N - 1) Try.prog l (encG x) W1 fun e W' =>
      (e = .returned (.bool true) ∧ J (pre ++ [x]) W' ∧ KpG wb.heap.size [B0, B1] W1 W') ∨ (e = .returned (.bool false) ∧ Jx (pre ++ [x]) W'))
    (hJ0 : J [] W) :
    CallsIn Fence.wide N Try.prog 54 (#[.func (.yield l) #[] #[]] ++ #[.pointer (some ⟨B0, 0, none⟩), .pointer (some ⟨B1, 0, none⟩)]) W fun e W' => (∃ v, e = .returned v) ∧
      ((∃ ys, ys = gl (mkP A L) (moF I) ∧ J ys W') ∨ (∃ pre, pre <+: gl (mkP A L) (moF I) ∧ Jx pre W')) := by
  have hlen : (mkP A L).length = L.length := mkP_len A L
  have HIN := Lib.hid (mkP_in hF)
  have HM0 := Lib.hid (moF_range hF)
  have HMO := Lib.hid (moK_full I hF.sI)
  have HTK := Lib.hid (mkP_take A L)
  obtain ⟨M0, hM0⟩ : ∃ m, m = moF I := ⟨_, rfl⟩
  obtain ⟨P, hP⟩ : ∃ P, P = mkP A L := ⟨_, rfl⟩
  rw [← hM0] at HM0 HMO ⊢
  rw [← hP] at hlen HIN HTK ⊢
  have HLEN := Lib.hid hlen
  clear hM0 hP hlen
  refine callsIn_of_wp Try.func54 rfl trivial ?_ rfl
  simp only [Try.ntmps54, List.size_toArray, List.length_cons, List.length_nil, Nat.reduceAdd, Nat.reduceSub, Array.replicate_succ, Array.replicate_zero, List.push_toArray, List.append_toArray, List.nil_append, List.cons_append]
  obtain ⟨bm, hbm⟩ : ∃ b, b = W.heap.size := ⟨_, rfl⟩
  have hST0 : StA wb J B0 B1 (.cells #[.slice aA A.length cA, .slice aI I.length cI] 25 (0, 0)) (.cells #[.slice aL L.length cL] 26 (0, 0)) [] bm 0 (moK I 0) (W.alloc (.map #[] 0)) := by
    have hb : Below W.heap.size W (W.alloc (.map #[] 0)) := (Below.refl _ _).alloc (Nat.le_refl _) _
    exact ⟨hJ _ _ _ none hJ0 (grown_of hb) (by simp), bt hbel hb (Nat.le_refl _), blk_keep h0 hb, blk_keep h1 hb, by rw [hbm]; exact mapIs_made W⟩
  have HST := Lib.hid hST0
  have hc00 := cell_of h0 0 _ rfl
  have hc01 := cell_of h0 1 _ rfl
  have hc10 := cell_of h1 0 _ rfl
  have hB0 := blk_lt h0
  have hB1 := blk_lt h1
  have hwb := hbel.size
  have hlI := hF.lI
  have hlL := hF.lL
  have HF := Lib.hid hF
  have HA := Lib.hid hA
  have HI := Lib.hid hI
  have HL := Lib.hid hL
  have HZA := Lib.hid (show ∀ i, (ga A i).nm.size ≤ maxLen ∧ (ga A i).iss.size ≤ maxLen from hZA)
  have HZI := Lib.hid (show ∀ i, (gi I i).1.size ≤ maxLen from hZI)
  have HBM := Lib.hid hbm
  clear h0 h1 hST0 hF hA hI hL hZA hZI hbel hbm
  have hmm := @run_makeMap Try.prog
  gi_wp2
  rw [← HBM.out]
  clear hmm hc00 hc01 hc10
  generalize W.alloc (.map #[] 0) = W0 at HST ⊢
  have hc00 := cell_of HST.out.b0 0 _ rfl
  have hc01 := cell_of HST.out.b0 1 _ rfl
  have hc10 := cell_of HST.out.b1 0 _ rfl
  gi_loopw [6, 17] (fun _ i wr => ∃ k : Nat, k ≤ I.length ∧ i = .int .i64 k ∧ Hid (StA wb J B0 B1 (.cells #[.slice aA A.length cA, .slice aI I.length cI] 25 (0, 0)) (.cells #[.slice aL L.length cL] 26 (0, 0)) [] bm k (moK I k) wr)) (fun _ i _ => I.length - (intOf i).toNat)
  case atStart => exact ⟨0, by omega, rfl, HST⟩
  case round =>
    clear HST hc00 hc01 hc10
    obtain ⟨k, hk, rfl, HST⟩ := hrel
    have hc00 := cell_of HST.out.b0 0 _ rfl
    have hc01 := cell_of HST.out.b0 1 _ rfl
    have hc10 := cell_of HST.out.b1 0 _ rfl
    rcases Nat.lt_or_ge k I.length with hlt | hge
    · have hki : (k : Int) < I.length := by omega
      obtain ⟨lb, lo, rfl, q0, q1⟩ := at_is (HI.out.below HST.out.bel) k hlt
      change _ = some (Value.string (gi I k).1) at q0
      change _ = some (Value.int .i64 (gi I k).2) at q1
      have HZ := Lib.hid (HZI.out k)
      have hwf : (Lit.int .i64 (gi I k).2).wf = true := by
        have := HF.out.rI k hlt
        exact wf_of (by omega) (by omega)
      have HUP := Lib.hid (show moK I (k + 1) = upd (moK I k) (gi I k).1 (gi I k).2 from rfl)
      have HW := Lib.hid hwf
      clear hwf
      generalize gi I k = x at q0 q1 HZ HUP HW
      have HB1' := Lib.hid ((Below.refl wr.heap.size wr).alloc (Nat.le_refl _) (.cells #[.string x.1, .int .i64 x.2] 50))
      have HS1 := Lib.hid (HST.out.below hJ HB1'.out)
      have hlb : lb < wr.heap.size := World.block_lt_of_cell? _ _ q0
      clear HST HB1'
      gi_wp2_with (gi_at_mapUpdate; go_loud (refine wpListIn_put_M (wr.alloc (.cells #[.string x.1, .int .i64 x.2] 50)) rfl _ _ _ 81 rfl Try.underlying81 bm k (moK I k) rfl HS1.out.mp (by unfold maxLen; omega) x.1 HZ.out x.2 HW.out rfl rfl ?_); intro w2 hm2 hg2)
      have HS2 := Lib.hid (HS1.out.put hJ (by rw [HBM.out]; exact Nat.le_refl _) hwb (by have := HBM.out; omega) (by have := HBM.out; omega) hg2 hm2)
      clear hm2 hg2 HS1
      go_roundw
      case rel => exact ⟨k + 1, by omega, by go_num, by rw [HUP.out]; exact HS2⟩
      case measure => simp [intOf]; omega
    · obtain rfl : k = I.length := by omega
      rw [HMO.out] at HST
      gi_wp2
      gi_loopw [8, 9, 10, 11, 12, 29] (fun _ _ _ _ _ i wq => ∃ k : Nat, k ≤ L.length ∧ i = .int .i64 k ∧ Hid (StA wb J B0 B1 (.cells #[.slice aA A.length cA, .slice aI I.length cI] 25 (0, 0)) (.cells #[.slice aL L.length cL] 26 (0, 0)) (gl (P.take k) M0) bm (I.length + k) (fin (P.take k) M0) wq)) (fun _ _ _ _ _ i _ => L.length - (intOf i).toNat)
      case atStart => exact ⟨0, by omega, rfl, HST⟩
      case round =>
        clear HST hc00 hc01 hc10
        obtain ⟨k, hk, rfl, HST⟩ := hrel
        have hc00 : wr.cell? ⟨B0, 0, none⟩ = some (.slice aA A.length cA) := cell_of HST.out.b0 0 _ rfl
        have hc01 : wr.cell? ⟨B0, 1, none⟩ = some (.slice aI I.length cI) := cell_of HST.out.b0 1 _ rfl
        have hb00 := blk_lt HST.out.b0
        have hb10 := blk_lt HST.out.b1
        rcases Nat.lt_or_ge k L.length with hlt | hge
        · have hki : (k : Int) < L.length := by omega
          have hc10 : wr.cell? ⟨B1, 0, none⟩ = some (.slice aL L.length cL) := cell_of HST.out.b1 0 _ rfl
          obtain ⟨lb, lo, rfl, q0, q1⟩ := at_is (HL.out.below HST.out.bel) k hlt
          have hlb := World.block_lt_of_cell? _ _ q0
          clear hc10
          change _ = some (Value.string (gi L k).1) at q0
          change _ = some (Value.int .i64 (gi L k).2) at q1
          have HTk := Lib.hid (HTK.out k hlt)
          obtain ⟨hr, j, hj, hfj, hgj⟩ := asF_range HF.out k hlt
          have hu := HF.out.rL k hlt
          have HFD := Lib.hid ((fidx_first A.length (fun i => (ga A i).nm) (gi L k).1).found)
          have HFN : Hid (fidx A.length (fun i => (ga A i).nm) (gi L k).1 = fnA A (gi L k).1 ∧ oa A (fnA A (gi L k).1) = asF A (gi L k).1) := ⟨rfl, rfl⟩
          rw [HFN.out.1] at HFD
          have HZ := Lib.hid (HZA.out j).2
          rw [← hgj] at HZ
          have HOA := Lib.hid HFN.out.2
          have HSM := Lib.hid (show (fnA A (gi L k).1).isSome = true by rw [hfj]; rfl)
          clear HFN hgj hfj
          generalize fnA A (gi L k).1 = r at HFD HOA HSM
          generalize asF A (gi L k).1 = x at *
          generalize gi L k = h at *
          have hm0 := fin_range (fun y hy => HIN.out y (List.mem_of_mem_take hy)) (P := P.take k) (m := M0) (fun t => (HM0.out t).1) x.iss
          have hm1 := (HM0.out x.iss).2
          have hcr := cvl_range hr (by omega) hu.2 (u := h.2) hm0.1
          have hpr := prod_range hr (show 0 ≤ h.2 by omega) hu.2
          have HGA := Lib.hid (show gl (P.take (k + 1)) M0 = gl (P.take k) M0 ++ [(h.2 * x.pr, cvl x h.2 (fin (P.take k) M0 x.iss))] by rw [HTk.out, gl_append])
          have HFI := Lib.hid (show fin (P.take (k + 1)) M0 = step x h.2 (fin (P.take k) M0) by rw [HTk.out, fin_append])
          have HPR := Lib.hid (show gl (P.take (k + 1)) M0 <+: gl P M0 by have := gl_pre (P.take (k + 1)) (P.drop (k + 1)) M0; rwa [List.take_append_drop] at this)
          have HLN := Lib.hid (show (gl (P.take k) M0).length = k by rw [gl_len, List.length_take, HLEN.out]; omega)
          have HSP := Lib.hid (show step x h.2 (fin (P.take k) M0) = upd (fin (P.take k) M0) x.iss (fin (P.take k) M0 x.iss - cvl x h.2 (fin (P.take k) M0 x.iss)) by
            funext t
            unfold step upd
            split
            · rename_i e
              rw [e]
            · rfl)
          have HCV := Lib.hid (show cvl x h.2 (fin (P.take k) M0 x.iss) = if x.el then min (min (h.2 * x.pr * (1000 - x.hc) / 1000) x.mo) (fin (P.take k) M0 x.iss) else 0 from rfl)
          have HFD2 := Lib.hid (fun (v : World) (hv : AtL v 6 asc aA A) => asset_any aA aI cA cI I.length A h.1 r v (by have := HF.out.lA; omega) hv HF.out.sA HFD.out)
          rw [HOA.out, HSM.out] at HFD2
          clear HFD HOA HSM HTk
          obtain ⟨xn, xi, pr, hc, mo, el⟩ := x
          obtain ⟨h1, u⟩ := h
          simp only at q0 q1 hm0 hm1 hcr hpr HGA HFI HPR HSP HCV HFD2 HZ hu
          obtain ⟨p0, p1, c0, c1, _⟩ := hr
          simp only at p0 p1 c0 c1
          generalize cvl _ u _ = cv at *
          generalize fin (P.take k) M0 = m at *
          generalize gl (P.take k) M0 = gs at *
          generalize hmx : m xi = mx at *
          have HMX := Lib.hid hmx
          clear hmx
          have w1 : IntKind.i64.wrap (u * pr) = u * pr := by rw [IntKind.wrap_i64]; omega
          have w2 : IntKind.i64.wrap (1000 - hc) = 1000 - hc := by rw [IntKind.wrap_i64]; omega
          have w3 : IntKind.i64.wrap (u * pr * (1000 - hc)) = u * pr * (1000 - hc) := by rw [IntKind.wrap_i64]; omega
          have w4 : (u * pr * (1000 - hc)).tdiv 1000 = u * pr * (1000 - hc) / 1000 := Int.tdiv_eq_ediv_of_nonneg hpr.2.1
          have w5 : IntKind.i64.wrap (u * pr * (1000 - hc) / 1000) = u * pr * (1000 - hc) / 1000 := by rw [IntKind.wrap_i64]; omega
          have w6 : IntKind.i64.wrap (mx - cv) = mx - cv := by rw [IntKind.wrap_i64]; omega
          have HS1 := Lib.hid (HST.out.below hJ ((Below.refl wr.heap.size wr).alloc (Nat.le_refl _) (.cells #[.string h1, .int .i64 u] 56)))
          have HBX := Lib.hid (blk_new wr (.cells #[.string h1, .int .i64 u] 56))
          clear HST
          gi_wp2_with fail
          refine ⟨trivial, callsIn_wide.2 ((HFD2.out _ (HA.out.below HS1.out.bel)).mono ?_)⟩
          rintro e w2 ⟨rfl, hb2⟩
          have HS2 := Lib.hid (HS1.out.below hJ hb2)
          have hk1 := blk_keep HBX.out hb2
          have hz0 : w2.cell? ⟨wr.heap.size, 0, none⟩ = some (.string h1) := cell_of hk1 0 _ rfl
          have hz1 : w2.cell? ⟨wr.heap.size, 1, none⟩ = some (.int .i64 u) := cell_of hk1 1 _ rfl
          have hz2 := blk_lt hk1
          have HS3 := Lib.hid (HS2.out.below hJ ((Below.refl w2.heap.size w2).alloc (Nat.le_refl _) (.cells #[.string xn, .string xi, .int .i64 pr, .int .i64 hc, .int .i64 mo, .bool el] 48)))
          have HK1 := Lib.hid hk1
          clear hk1 hb2 HS1 HS2 HBX HFD2 q0 q1 hc00 hc01 hb00 hb10
          cases el
          · have hcv : cv = 0 := by rw [HCV.out]; rfl
            subst hcv
            have HSQ := Lib.hid (show upd m xi mx = step _ u m by rw [HSP.out, Int.sub_zero])
            gi_wp2_with (first | (gi_at_lookup; refine wpListIn_look_M _ rfl _ _ 81 rfl Try.underlying81 bm (I.length + k) m rfl HS3.out.mp xi HZ.out rfl ?_; rw [HMX.out]) | (gi_at_mapUpdate; refine wpListIn_put_M _ rfl _ _ _ 81 rfl Try.underlying81 bm (I.length + k) m rfl HS3.out.mp (by unfold maxLen; omega) xi HZ.out mx (wf_of (by omega) (by omega)) rfl rfl ?_; intro w5 hm5 hg5; have HS5 := Lib.hid (HS3.out.put hJ (by rw [HBM.out]; exact Nat.le_refl _) hwb (by have := HBM.out; omega) (by have := HBM.out; omega) hg5 hm5); rw [HSQ.out] at HS5; have HY := Lib.hid (hY gs (u * pr, (0 : Int)) w5 HS5.out.j (by rw [HLN.out]; exact hlt)); clear hm5 hg5; obtain ⟨fn, tmps, assign, body, hy, hR⟩ := HY.out; clear HY; dsimp only [encG] at hy))
            refine hR.mono ?_
            rintro e W3 (⟨rfl, hJ3, hk3⟩ | ⟨rfl, hJx3⟩)
            · have HS6 := Lib.hid (HS5.out.round (J' := J) (pre' := gl (P.take (k + 1)) M0) (by rw [HGA.out]; exact hJ3) hk3)
              clear hJ3 hk3 HS5
              gi_wp2
              go_roundw
              case rel => exact ⟨k + 1, by omega, by go_num, by rw [HFI.out]; exact HS6⟩
              case measure => simp [intOf]; omega
            · gi_wp2
              refine bodyPost_ret (results_none rfl _ _ _) rfl ?_
              exact ⟨⟨_, rfl⟩, .inr ⟨_, by rw [← HGA.out]; exact HPR.out, hJx3⟩⟩
          · have hcv : min (min (u * pr * (1000 - hc) / 1000) mo) mx = cv := by rw [HCV.out]; simp
            have HCQ := Lib.hid hcv
            clear hcv
            obtain ⟨w3, hw3⟩ : ∃ v, v = w2.alloc (.cells #[.string xn, .string xi, .int .i64 pr, .int .i64 hc, .int .i64 mo, .bool true] 48) := ⟨_, rfl⟩
            have HBY := Lib.hid (show w3.heap[w2.heap.size]? = some (.cells #[.string xn, .string xi, .int .i64 pr, .int .i64 hc, .int .i64 mo, .bool true] 48 (0, 0)) by rw [hw3]; exact blk_new w2 _)
            have HSZ := Lib.hid (show w3.heap.size = w2.heap.size + 1 by rw [hw3, World.size_alloc])
            rw [← hw3] at HS3
            have HW3 := Lib.hid hw3
            clear hw3
            have HS4 := Lib.hid (HS3.out.below hJ ((Below.refl w3.heap.size w3).alloc (Nat.le_refl _) (.cells #[.int .i64 (u * pr * (1000 - hc) / 1000), .int .i64 mo, .int .i64 mx] 3)))
            gi_wp2_with (first | (gi_at_lookup; refine wpListIn_look_M _ rfl _ _ 81 rfl Try.underlying81 bm (I.length + k) m rfl (show Hid (StA _ _ _ _ _ _ _ _ _ _ _) by rw [← HW3.out]; exact HS3).out.mp xi HZ.out rfl ?_; rw [HMX.out]) | fail)
            rw [← HW3.out]
            have kb : (w3.alloc (.cells #[.int .i64 (u * pr * (1000 - hc) / 1000), .int .i64 mo, .int .i64 mx] 3)).heap[w2.heap.size + 1]? = some (.cells #[.int .i64 (u * pr * (1000 - hc) / 1000), .int .i64 mo, .int .i64 mx] 3 (0, 0)) := by rw [← HSZ.out]; exact blk_new w3 _
            have ky : (w3.alloc (.cells #[.int .i64 (u * pr * (1000 - hc) / 1000), .int .i64 mo, .int .i64 mx] 3)).heap[w2.heap.size]? = some (.cells #[.string xn, .string xi, .int .i64 pr, .int .i64 hc, .int .i64 mo, .bool true] 48 (0, 0)) := blk_past w3 _ HBY.out
            have y1 := blk_lt ky
            generalize w3.alloc (.cells #[.int .i64 (u * pr * (1000 - hc) / 1000), .int .i64 mo, .int .i64 mx] 3) = w4 at HS4 kb ky y1 ⊢
            refine ⟨trivial, callsIn_wide.2 ((least_any _ _ _ _ _ _ (cell_of kb 0 _ rfl) (cell_of kb 1 _ rfl) (cell_of kb 2 _ rfl)).mono ?_)⟩
            rintro e w' ⟨rfl, rfl⟩
            rw [HCQ.out]
            have k1 : w'.cell? ⟨w2.heap.size, 1, none⟩ = some (.string xi) := cell_of ky 1 _ rfl
            clear kb ky HS3 HW3 HBY hz0 hz1 hz2
            have HSQ := Lib.hid (show upd m xi (mx - cv) = step _ u m from HSP.out.symm)
            gi_wp2_with (first | (gi_at_lookup; refine wpListIn_look_M _ rfl _ _ 81 rfl Try.underlying81 bm (I.length + k) m rfl HS4.out.mp xi HZ.out rfl ?_; rw [HMX.out]) | (gi_at_mapUpdate; refine wpListIn_put_M _ rfl _ _ _ 81 rfl Try.underlying81 bm (I.length + k) m rfl HS4.out.mp (by unfold maxLen; omega) xi HZ.out (mx - cv) (wf_of (by omega) (by omega)) rfl rfl ?_; intro w5 hm5 hg5; have HS5 := Lib.hid (HS4.out.put hJ (by rw [HBM.out]; exact Nat.le_refl _) hwb (by have := HBM.out; omega) (by have := HBM.out; omega) hg5 hm5); rw [HSQ.out] at HS5; have HY := Lib.hid (hY gs (u * pr, cv) w5 HS5.out.j (by rw [HLN.out]; exact hlt)); clear hm5 hg5; obtain ⟨fn, tmps, assign, body, hy, hR⟩ := HY.out; clear HY; dsimp only [encG] at hy))
            refine hR.mono ?_
            rintro e W3 (⟨rfl, hJ3, hk3⟩ | ⟨rfl, hJx3⟩)
            · have HS6 := Lib.hid (HS5.out.round (J' := J) (pre' := gl (P.take (k + 1)) M0) (by rw [HGA.out]; exact hJ3) hk3)
              clear hJ3 hk3 HS5
              gi_wp2
              go_roundw
              case rel => exact ⟨k + 1, by omega, by go_num, by rw [HFI.out]; exact HS6⟩
              case measure => simp [intOf]; omega
            · gi_wp2
              refine bodyPost_ret (results_none rfl _ _ _) rfl ?_
              exact ⟨⟨_, rfl⟩, .inr ⟨_, by rw [← HGA.out]; exact HPR.out, hJx3⟩⟩
        · obtain rfl : k = L.length := by omega
          rw [List.take_of_length_le (by rw [HLEN.out]; exact Nat.le_refl _)] at HST
          gi_wp2
          go_end0
          exact ⟨⟨_, rfl⟩, .inl ⟨_, rfl, HST.out.j⟩⟩
end Go.Proofs.Ytbfgnkakcnhojaa.Co
