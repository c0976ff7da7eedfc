/-
  Compress: the walks of the reference's First and Cycle.
-/
import Derived.Test.YtpphiohppgphnaaCs5
namespace Go.Proofs.Ytpphiohppgphnaa.Cs
open Go.RowKit Go.Proofs.Ytpphiohppgphnaa Go.Proofs.Ytpphiohppgphnaa.Ls Go.Proofs.Ytpphiohppgphnaa.Kb Go.Proofs.Ytpphiohppgphnaa.Cz
open Go.Proofs.Ytpphiohppgphnaa.Nm hiding ret_bool ret_int hb'

/-- indices as numbers -/
def il (r : List Nat) : List Int := r.map fun (n : Nat) => (n : Int)
theorem il_len (r : List Nat) : (il r).length = r.length := List.length_map ..
theorem il_snoc (r : List Nat) (k : Nat) : il (r ++ [k]) = il r ++ [(k : Int)] := by unfold il; rw [List.map_append]; rfl
/-- the search for the next trade, from the end down: those from k + 1 on are done -/
def NxP (l : List Tr) (c p : ByteArray) (fr : List Int) (e : Int) (j : Nat) : Prop := j < l.length ∧ (gt l j).con = c ∧ (gt l j).fr = p ∧ oi fr j = e
def Scan (P : Nat → Prop) (n : Nat) (k : Int) (nx : Int) : Prop := (nx = -1 ∧ ∀ j : Nat, k < j → j < n → ¬ P j) ∨ ∃ m : Nat, nx = m ∧ k < m ∧ P m ∧ ∀ j : Nat, k < j → j < m → ¬ P j
theorem scan_yes {P : Nat → Prop} {n kn : Nat} {nx : Int} (_h : Scan P n kn nx) (hp : P kn) : Scan P n ((kn : Int) - 1) kn := .inr ⟨kn, rfl, by omega, hp, fun j h1 h2 => by omega⟩
theorem scan_no {P : Nat → Prop} {n kn : Nat} {nx : Int} (h : Scan P n kn nx) (hp : ¬ P kn) : Scan P n ((kn : Int) - 1) nx := by
  have key : ∀ j : Nat, (kn : Int) - 1 < j → ¬ (kn : Int) < j → j = kn := fun j h1 h2 => by omega
  rcases h with ⟨h1, h2⟩ | ⟨m, h1, h2, h3, h4⟩
  · exact .inl ⟨h1, fun j a b => by
      by_cases g : (kn : Int) < j
      · exact h2 j g b
      · rw [key j a g]; exact hp⟩
  · exact .inr ⟨m, h1, by omega, h3, fun j a b => by
      by_cases g : (kn : Int) < j
      · exact h4 j g b
      · rw [key j a g]; exact hp⟩
theorem scan_end {P : Nat → Prop} {n : Nat} {nx : Int} {k : Nat} (h : Scan P n (-1) nx) (hk : P k ∧ k < n) (hl : ∀ j, j < k → ¬ P j) : nx = k := by
  rcases h with ⟨_, h2⟩ | ⟨m, h1, _, h3, h4⟩
  · exact absurd hk.1 (h2 k (by omega) hk.2)
  · rcases Nat.lt_trichotomy m k with g | g | g
    · exact absurd h3 (hl m g)
    · rw [h1, g]
    · exact absurd hk.1 (h4 k (by omega) g)
theorem far_up {l : List Tr} {c T : ByteArray} {out : List Int} (h : FarR l c T out) (i : Nat) (hi : i < l.length) : (gt l i).con = c → ∀ d, Dist l c T (gt l i).to_ d → oi out i = d := fun hc d hd => by
  rcases h.2.1 i hi with ⟨_, d', h1, h2⟩ | ⟨h1, _⟩
  · rw [h2, hd.uniq h1]
  · rcases h1 with h1 | h1
    · exact absurd hc h1
    · exact absurd hd.1 (h1 d)
theorem grd_succ {l : List Tr} {c T p : ByteArray} {d : Nat} {a : List Nat} (h : Grd l c T p (d + 1) a) : ∃ k tr, a = k :: tr ∧ Out l c p k ∧ Dist l c T (gt l k).to_ d ∧ (∀ j, j < k → Out l c p j → ¬ Rch l c T d (gt l j).to_) ∧ Grd l c T (gt l k).to_ d tr := by
  cases h with
  | cons _ _ k tr ho hd hk h => exact ⟨k, tr, rfl, ho, hd, hk, h⟩
theorem own_new1 (w : World) (v : Int) : OwnL (w.alloc (.cells #[.int .i64 v] 3)) w.heap.size 3 1 ic (.slice (some ⟨w.heap.size, 0, none⟩) 1 1) [v] :=
  ⟨by simp [ic], .inr ⟨w.heap.size, 1, _, rfl, Nat.le_refl _, blk_new _ _, Nat.le_refl _, by unfold maxLen; omega, by simp, by simp [ic]⟩⟩
theorem own_apart2 {α : Type} {A B : World} {B0 : Nat} {T : TypeId} {k : Nat} {f : α → List Value} {u v : Value} {xs : List α} (h : OwnL A B0 T k f v xs) (hg : A.grownBy B u.ownBlock) (hr : ∀ b, v.ownBlock = some b → u.ownBlock ≠ some b) : OwnL B B0 T k f v xs := by
  refine World.ownsRow.kept h hg ?_
  rcases h.2 with ⟨rfl, _⟩ | ⟨g, cap, cur, rfl, _, hgg, _⟩
  · exact .inl rfl
  · exact .inr fun e => hr g rfl (e.symm.trans rfl)
set_option maxRecDepth 100000 in
set_option maxHeartbeats 8000000 in
theorem rfirst_any (a : Option Addr) (cL : Nat) (l : List Tr) (r : List Nat) (w : World) (hn : l.length ≤ 1000000) (hA : AtL w 4 trc a l) (hr : First l r) :
    Calls Try.prog 31 #[.slice a l.length cL] w fun e w' => ∃ a' c', e = .returned (.slice a' r.length c') ∧ OwnL w' w.heap.size 3 1 ic (.slice a' r.length c') (il r) ∧ Below w.heap.size w w' := by
  have HA := Lib.hid hA
  have HR := Lib.hid hr
  clear hA hr
  go_enter Try.func31, Try.ntmps31
  go_wp2_with fail
  go_loopw [3, 4, 5, 6, 7, 8] (fun i _ _ _ _ _ wr => ∃ I0 : Nat, I0 ≤ l.length ∧ i = .int .i64 I0 ∧ Hid (∀ j, j < I0 → ∀ n, ¬ Rch l (gt l j).con (gt l j).fr n (gt l j).to_) ∧ Hid (Below w.heap.size w wr)) (fun i _ _ _ _ _ _ => l.length - (intOf i).toNat)
  case atStart => exact ⟨0, by omega, rfl, fun j hj => by omega, Below.refl _ _⟩
  case round =>
    obtain ⟨I0, hI, rfl, HNO, HB⟩ := hrel
    rcases Nat.lt_or_ge I0 l.length with hil | hge
    · have hki : (I0 : Int) < l.length := by omega
      have hk0 : (0 : Int) ≤ (I0 : Int) := by omega
      obtain ⟨lb, lo, rfl, q0, q1, q2, q3⟩ := at_tr (HA.out.below HB.out) I0 hil
      have HFC := Lib.hid (fun (v : World) (hv : Below w.heap.size w v) => far_any (some ⟨lb, lo, none⟩) cL l (gt l I0).con (gt l I0).fr v hn (HA.out.below hv))
      have HBS := Lib.hid (show ∀ wx, Below wr.heap.size wr wx → wx.cell? ⟨lb, lo + I0 * 4, none⟩ = some (.string (gt l I0).fr) ∧ wx.cell? ⟨lb, lo + I0 * 4 + 2, none⟩ = some (.string (gt l I0).con) from fun wx hx => ⟨keep q0 hx, keep q2 hx⟩)
      have k0 : Below wr.heap.size wr wr := Below.refl _ _
      have kd := k0.drew
      have hws := HB.out.size
      have hlb : lb < wr.heap.size := World.block_lt_of_cell? _ _ q0
      go_wp2_with fail
      go_upto_region 4 with fail
      go_cut [4] from 15 to 26 (fun p wn => ∃ (fa : Option Addr) (fc : Nat) (fr : List Int), p = .slice fa l.length fc ∧ Hid (FarR l (gt l I0).con (gt l I0).fr fr) ∧ Hid (OwnL wn wr.heap.size 3 1 ic (.slice fa l.length fc) fr ∧ Below wr.heap.size wr wn))
      case first =>
        go_region_held3 (fun w' => w'.cell? ⟨lb, lo + I0 * 4, none⟩ = some (.string (gt l I0).fr) ∧ w'.cell? ⟨lb, lo + I0 * 4 + 2, none⟩ = some (.string (gt l I0).con))
          (first | with_reducible exact HBS.out _ (by assumption) | with_reducible exact HBS.out _ (Below.drew (by assumption)) | go_keep)
          ((go_at_call 39; refine (HFC.out wr.drew HB.out.drew).mono ?_; rintro e w5 ⟨fa, fc, fr, rfl, hf5, ho5, hb5⟩; have k5 : Below wr.heap.size wr w5 := bt kd hb5 (Nat.le_refl _)))
        all_goals
          go_wp2
          go_meet
          case rel => exact ⟨fa, fc, fr, rfl, hf5, Lib.hid ⟨ho5, by first | exact k5 | exact k5.drew⟩⟩
      case rest =>
        obtain ⟨fa, fc, fr, rfl, HFR, HFO5⟩ := hcut
        have c5 := HB.out.trans (HFO5.out.2.mono hws)
        obtain ⟨fb, fo, rfl, z0⟩ := at_int (HFO5.out.1.sl ic_len).1 I0 (by rw [HFR.out.1]; exact hil)
        change _ = some (Value.int .i64 (oi fr I0)) at z0
        clear HFC HBS k0 kd q0 q1 q2 q3
        by_cases hre : ∃ n, Rch l (gt l I0).con (gt l I0).fr n (gt l I0).to_
        · obtain ⟨n0, hn0⟩ := hre
          obtain ⟨d, hd⟩ := dist_of hn0
          obtain ⟨tr, hg⟩ := grd_of hd
          have hfi := far_up HFR.out I0 hil rfl d hd
          have HRE := Lib.hid ((First.some I0 d tr hil hd hg HNO.out).uniq HR.out)
          have HDD := Lib.hid hd
          have HGG := Lib.hid hg
          have HFI := Lib.hid hfi
          rw [hfi] at z0
          clear hn0 hd hg hfi HNO
          have HO0 := Lib.hid (own_new1 wc (I0 : Int))
          have HTL := Lib.hid HGG.out.len
          have HFO6 := Lib.hid ((HFO5.out.1.lower' hws).below ((Below.refl _ _).alloc (Nat.le_refl _) (.cells #[.int .i64 (I0 : Int)] 3)))
          have HFB := Lib.hid (fun b (e : (Value.slice (some ⟨fb, fo, none⟩) l.length fc).ownBlock = some b) => (HFO5.out.1.lt b e).2)
          have HFL := Lib.hid HFR.out.1
          have hdl : (d : Int) < l.length := by have := HFR.out.2.2 I0 hil; rw [HFI.out] at this; exact this
          have HBB := Lib.hid c5.size
          have C6 := Lib.hid (c5.alloc c5.size (.cells #[.int .i64 (I0 : Int)] 3))
          have HSZ := Lib.hid (show wc.heap.size ≤ (wc.alloc (.cells #[.int .i64 (I0 : Int)] 3)).heap.size by simp)
          obtain ⟨B0, hB0⟩ : ∃ B0, B0 = wc.heap.size := ⟨_, rfl⟩
          rw [← hB0] at HO0 HFB HBB HSZ
          have HB00 := Lib.hid hB0
          clear hB0 HFO5 c5
          go_wp2_with fail
          rw [← HB00.out]
          clear HB00 z0
          generalize World.alloc _ _ = wz at HO0 HFO6 C6 HSZ ⊢
          go_loopg [5, 6, 7, 8] (d + 2) (fun g o at_ _ _ wr => ∃ (A0 e : Nat) (pre rest : List Nat) (oa : Option Addr) (oc : Nat), at_ = .int .i64 A0 ∧ o = .slice oa pre.length oc ∧ A0 < l.length ∧ Hid ((gt l A0).con = (gt l I0).con) ∧ Hid (Dist l (gt l I0).con (gt l I0).fr (gt l A0).to_ e) ∧ Hid (Grd l (gt l I0).con (gt l I0).fr (gt l A0).to_ e rest) ∧
            Hid (pre ++ rest = I0 :: tr) ∧ Hid (oi fr A0 = e) ∧ Hid (OwnL wr B0 3 1 ic (.slice oa pre.length oc) (il pre)) ∧ Hid (OwnL wr w.heap.size 3 1 ic (.slice (some ⟨fb, fo, none⟩) l.length fc) fr) ∧ Hid (Below w.heap.size w wr) ∧ Hid (B0 ≤ wr.heap.size) ∧ e + 1 < g)
          case atStart => exact ⟨I0, d, [I0], tr, some ⟨B0, 0, none⟩, 1, rfl, rfl, hil, rfl, HDD, HGG, rfl, HFI, HO0, HFO6, C6, HSZ, by omega⟩
          case round =>
            clear HO0 HFO6 C6 HSZ HDD HGG HFI
            obtain ⟨A0, e, pre0, rest0, oa, oc, rfl, rfl, hAl, HKC0, HKD0, HKG0, HPR0, HAE, HO, HFO, HB6, HB0, hgk⟩ := hrel
            have HGK := Lib.hid hgk
            have HLN := Lib.hid (show (il pre0).length + rest0.length = d + 1 by
              have h1 := congrArg List.length HPR0.out
              rw [List.length_append, List.length_cons, HTL.out] at h1
              rw [il_len]; exact h1)
            clear hgk
            have z1 := at_int' (HFO.out.sl ic_len).1 A0 (by rw [HFL.out]; exact hAl)
            change _ = some (Value.int .i64 (oi fr A0)) at z1
            rw [HAE.out] at z1
            have hA0 : (0 : Int) ≤ (A0 : Int) := by omega
            have hA1 : (A0 : Int) < l.length := by omega
            cases e with
            | zero =>
              have hr0 : rest0 = [] := List.length_eq_zero_iff.1 HKG0.out.len
              have HEND := Lib.hid (show pre0 = r by rw [← HRE.out, ← HPR0.out, hr0, List.append_nil])
              have HOR := Lib.hid (HO.out.lower' HBB.out)
              clear hr0
              go_wp2
              go_ret
              rw [← HEND.out]
              exact ⟨oa, oc, rfl, HOR.out, HB6.out⟩
            | succ e1 =>
              obtain ⟨K0, rest1, hrs, ho, hd, hkn, hg1⟩ : ∃ K0 rest1, rest0 = K0 :: rest1 ∧ Out l (gt l I0).con (gt l A0).to_ K0 ∧ Dist l (gt l I0).con (gt l I0).fr (gt l K0).to_ e1 ∧ (∀ j, j < K0 → Out l (gt l I0).con (gt l A0).to_ j → ¬ Rch l (gt l I0).con (gt l I0).fr e1 (gt l j).to_) ∧ Grd l (gt l I0).con (gt l I0).fr (gt l K0).to_ e1 rest1 := by
                exact grd_succ HKG0.out
              have hfk := far_up HFR.out K0 ho.1 ho.2.1 e1 hd
              have he1 : (e1 : Int) < l.length := by have := HFR.out.2.2 K0 ho.1; rw [hfk] at this; exact this
              have HK0 := Lib.hid (show NxP l (gt l I0).con (gt l A0).to_ fr (e1 : Int) K0 ∧ K0 < l.length from ⟨⟨ho.1, ho.2.1, ho.2.2, hfk⟩, ho.1⟩)
              have HKN := Lib.hid (show ∀ j, j < K0 → ¬ NxP l (gt l I0).con (gt l A0).to_ fr (e1 : Int) j from fun j hj ⟨n1, n2, n3, n4⟩ => by
                rcases HFR.out.2.1 j n1 with ⟨_, d', h1, h2⟩ | ⟨_, h2⟩
                · have : d' = e1 := by omega
                  subst this
                  exact hkn j hj ⟨n1, n2, n3⟩ h1.1
                · omega)
              have HKL := Lib.hid ho.1
              have HKC := Lib.hid ho.2.1
              have HKD := Lib.hid hd
              have HKG := Lib.hid hg1
              have HKE := Lib.hid hfk
              have HPR := Lib.hid (show pre0 ++ K0 :: rest1 = I0 :: tr by rw [← hrs]; exact HPR0.out)
              have HDL := Lib.hid (show (il pre0).length ≤ d by have h1 := HLN.out; rw [hrs, List.length_cons] at h1; omega)
              have hAe := HAE
              have HFA := Lib.hid (HFO.out.sl ic_len).1
              have c6 := HB6
              clear hrs ho hd hkn hg1 hfk HKG0 HKD0 HKC0 HPR0 HLN HAE
              go_wp2_with fail
              clear z1
              go_loopw [7, 8] (fun nx k wv => ∃ (kk nxv : Int), -1 ≤ kk ∧ kk < l.length ∧ k = .int .i64 kk ∧ nx = .int .i64 nxv ∧ Hid (Scan (NxP l (gt l I0).con (gt l A0).to_ fr (e1 : Int)) l.length kk nxv) ∧ Hid (Below wr.heap.size wr wv)) (fun _ k _ => (intOf k + 1).toNat)
              case atStart => exact ⟨(l.length : Int) - 1, -1, by omega, by omega, by go_num, rfl, .inl ⟨rfl, fun j h1 h2 => by omega⟩, Below.refl _ _⟩
              case round =>
                obtain ⟨kk, nx, hk1, hk2, rfl, rfl, hsc, HBS⟩ := hrel
                have cS := c6.out.trans (HBS.out.mono c6.out.size)
                by_cases hk3 : 0 ≤ kk
                · obtain ⟨kn, rfl⟩ : ∃ kn : Nat, kk = kn := ⟨kk.toNat, by omega⟩
                  have hkl : kn < l.length := by omega
                  have hli : (I0 : Int) < l.length := by omega
                  have hlI : (0 : Int) ≤ (I0 : Int) := by omega
                  have hA0 : (0 : Int) ≤ (A0 : Int) := by omega
                  have hA1 : (A0 : Int) < l.length := by omega
                  obtain ⟨p0, _, p2, _⟩ := at_tr' (HA.out.below cS) kn hkl
                  obtain ⟨_, _, q2, _⟩ := at_tr' (HA.out.below cS) I0 hil
                  obtain ⟨_, r1, _, _⟩ := at_tr' (HA.out.below cS) A0 hAl
                  have z0 := at_int' (HFA.out.below HBS.out) kn (by rw [HFL.out]; exact hkl)
                  have z1 := at_int' (HFA.out.below HBS.out) A0 (by rw [HFL.out]; exact hAl)
                  change _ = some (Value.int .i64 (oi fr kn)) at z0
                  change _ = some (Value.int .i64 (oi fr A0)) at z1
                  rw [hAe.out] at z1
                  have hlow : -1 ≤ oi fr kn := by rcases HFR.out.2.1 kn hkl with ⟨_, d, _, e⟩ | ⟨_, e⟩ <;> omega
                  have hup := HFR.out.2.2 kn hkl
                  have w1 : IntKind.i64.wrap (((e1 : Int) + 1) - 1) = (e1 : Int) := by rw [IntKind.wrap_i64]; omega
                  have HYES := Lib.hid (fun (h1 : (gt l kn).con = (gt l I0).con) (h2 : (gt l kn).fr = (gt l A0).to_) (h3 : oi fr kn = (e1 : Int)) => scan_yes hsc.out (kn := kn) ⟨hkl, h1, h2, h3⟩)
                  have HNOT := Lib.hid (fun (h : ¬ ((gt l kn).con = (gt l I0).con ∧ (gt l kn).fr = (gt l A0).to_ ∧ oi fr kn = (e1 : Int))) => scan_no hsc.out (kn := kn) (fun q => h q.2))
                  generalize (gt l kn).con = yc at *
                  generalize (gt l kn).fr = yf at *
                  generalize (gt l I0).con = xc at *
                  generalize (gt l A0).to_ = at_ at *
                  generalize oi fr kn = fk at *
                  by_cases g1 : yc = xc
                  · have f1 := eq_yes g1
                    by_cases g2 : yf = at_
                    · have f2 := eq_yes g2
                      by_cases g3 : fk = (e1 : Int)
                      · have f3 : (fk == (e1 : Int)) = true := by rw [beq_iff_eq]; exact g3
                        have HN := Lib.hid (HYES.out g1 g2 g3)
                        clear g1 g2 g3 HYES HNOT hsc
                        go_wp2_with fail
                        go_big_quiet (fail)
                        go_wp2
                        go_roundw
                        case rel => exact ⟨(kn : Int) - 1, (kn : Int), by omega, by omega, rfl, rfl, HN.out, Lib.hid (below_drewN HBS.out _)⟩
                        case measure => simp [intOf]
                      · have f3 : (fk == (e1 : Int)) = false := by rw [beq_eq_false_iff_ne]; exact g3
                        have HN := Lib.hid (HNOT.out (fun h => g3 h.2.2))
                        clear g1 g2 g3 HYES HNOT hsc
                        go_wp2_with fail
                        go_big_quiet (fail)
                        go_wp2
                        go_roundw
                        case rel => exact ⟨(kn : Int) - 1, nx, by omega, by omega, rfl, rfl, HN.out, Lib.hid (below_drewN HBS.out _)⟩
                        case measure => simp [intOf]
                    · have f2 := eq_no g2
                      have HN := Lib.hid (HNOT.out (fun h => g2 h.2.1))
                      clear g1 g2 HYES HNOT hsc w1
                      go_wp2_with fail
                      go_big_quiet (fail)
                      go_wp2
                      go_roundw
                      case rel => exact ⟨(kn : Int) - 1, nx, by omega, by omega, rfl, rfl, HN.out, Lib.hid (below_drewN HBS.out _)⟩
                      case measure => simp [intOf]
                  · have f1 := eq_no g1
                    have HN := Lib.hid (HNOT.out (fun h => g1 h.1))
                    clear g1 HYES HNOT hsc w1
                    go_wp2_with fail
                    go_big_quiet (fail)
                    go_wp2
                    go_roundw
                    case rel => exact ⟨(kn : Int) - 1, nx, by omega, by omega, rfl, rfl, HN.out, Lib.hid (below_drewN HBS.out _)⟩
                    case measure => simp [intOf]
                · obtain rfl : kk = -1 := by omega
                  obtain rfl : nx = (K0 : Int) := scan_end hsc.out HK0.out HKN.out
                  have HO7 := Lib.hid (HO.out.below HBS.out)
                  have HFO7 := Lib.hid (HFO.out.below HBS.out)
                  clear hsc HO HFO hk1 hk2 hk3
                  have HB0' := Lib.hid (show B0 ≤ wr.heap.size by have := HBS.out.size; have := HB0.out; omega)
                  clear HB0
                  have HB0 := HB0'
                  clear HB0'
                  have HO := HO7
                  clear HO7
                  have hd1 := HDL.out
                  go_wp2_with (at_builtin; refine wpList_append_L (P := Try.prog) (α := Int) rfl _ _ _ rfl 3 (.int .i64 0) 1 8 Try.underlying38 info_int rfl (by decide) B0 ic (.slice oa pre0.length oc) (il pre0) ((K0 : Int)) wr.heap.size #[.int .i64 ((K0 : Int))] (by rfl) (by rfl) (HO.out.below ((Below.refl _ _).alloc (Nat.le_refl _) _)) (blk_new wr _) rfl (ic_len _) (ic_one _) (by unfold maxLen; omega) (by omega) (by have := HB0.out; simp; omega) ?_; intro g9 cap w9 ho9 hg9 hat9)
                  have k9 := Lib.hid ((cS.alloc cS.size _).grown hg9 (by have := cS.size; simp; omega) (fun j hj => by have := (HO.out.lt j hj).1; have := HBB.out; omega))
                  have HFO9 := Lib.hid (own_apart2 (HFO7.out.below ((Below.refl _ _).alloc (Nat.le_refl _) _)) hg9 (fun b h1 h2 => by have := HFB.out b h1; have := (HO.out.lt b h2).1; omega))
                  have HO9 := Lib.hid ho9
                  have HB9 := Lib.hid (show B0 ≤ w9.heap.size by have := HB0.out; have := hg9.size; simp at this; omega)
                  clear ho9 hg9 hat9 hd1
                  go_wp2
                  go_roundg (gk - 1)
                  case measure => have := HGK.out; omega
                  case rel => exact ⟨K0, e1, pre0 ++ [K0], rest1, some ⟨g9, 0, none⟩, cap, rfl, by rw [List.length_append, il_len]; rfl, HKL.out, HKC, HKD, HKG, by unfold Hid; rw [List.append_assoc]; exact HPR.out, HKE, by unfold Hid; rw [il_snoc, List.length_append, ← il_len]; exact HO9.out, HFO9, k9, HB9, by have := HGK.out; omega⟩
        · have hfi : oi fr I0 = -1 := by
            rcases HFR.out.2.1 I0 hil with ⟨_, d, h1, _⟩ | ⟨_, h⟩
            · exact absurd ⟨d, h1.1⟩ hre
            · exact h
          rw [hfi] at z0
          have HNO2 := Lib.hid (show ∀ j, j < I0 + 1 → ∀ n, ¬ Rch l (gt l j).con (gt l j).fr n (gt l j).to_ from fun j hj n hr => by
            rcases Nat.eq_or_lt_of_le (show j ≤ I0 by omega) with g | g
            · subst g; exact hre ⟨n, hr⟩
            · exact HNO.out j g n hr)
          clear hfi hre HFR HNO
          go_wp2
          go_roundw
          case rel => exact ⟨I0 + 1, by omega, by go_num, HNO2, Lib.hid c5⟩
          case measure => simp [intOf]; omega
    · obtain rfl : I0 = l.length := by omega
      have HRE := Lib.hid ((First.none fun i hi => HNO.out i hi).uniq HR.out)
      clear HNO
      obtain rfl := HRE.out
      go_wp2
      go_ret
      exact ⟨none, 0, rfl, OwnL.nil _ _ _ _ _, HB.out⟩
end Go.Proofs.Ytpphiohppgphnaa.Cs

