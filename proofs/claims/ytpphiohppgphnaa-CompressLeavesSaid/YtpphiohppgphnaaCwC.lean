/-
  Compress: the walk of reaches.
-/
import Derived.Test.YtpphiohppgphnaaCvN
namespace Go.Proofs.Ytpphiohppgphnaa.Cs
open Go.RowKit Go.Proofs.Ytpphiohppgphnaa Go.Proofs.Ytpphiohppgphnaa.Ls Go.Proofs.Ytpphiohppgphnaa.Kb Go.Proofs.Ytpphiohppgphnaa.Cz
open Go.Proofs.Ytpphiohppgphnaa.Nm hiding ret_bool ret_int hb'

/-- the parties known so far: from none of them a way leads to T -/
structure Kn (w0 : World) (l : List Tr) (c T : ByteArray) (ka : Option Addr) (kc : Nat) (kn : List ByteArray) (wr : World) : Prop where
  own : OwnL wr w0.heap.size 9 1 sc (.slice ka kn.length kc) kn
  no : ∀ q ∈ kn, ∀ n, ¬ Rch l c T n q
  bd : kn.length + fresh l kn ≤ l.length + 1
  bel : Below w0.heap.size w0 wr
section
variable {w0 wr : World} {l : List Tr} {c T : ByteArray} {ka : Option Addr} {kc : Nat} {kn : List ByteArray}
theorem Kn.below (h : Kn w0 l c T ka kc kn wr) {w : World} (hb : Below wr.heap.size wr w) : Kn w0 l c T ka kc kn w := ⟨h.own.below hb, h.no, h.bd, bt h.bel hb (Nat.le_refl _)⟩
theorem Kn.ne (h : Kn w0 l c T ka kc kn wr) (I : Nat) (hI : I < kn.length) : gs kn I ≠ T := fun e => h.no _ (gs_mem kn I hI) 0 e
theorem Kn.grow (h : Kn w0 l c T ka kc kn wr) {k I g cap : Nat} {w : World} (hI : I < kn.length) (ho : Out l c (gs kn I) k) (hs : inS kn (gt l k).to_ = false) (hO : OwnL w w0.heap.size 9 1 sc (.slice (some ⟨g, 0, none⟩) (kn.length + 1) cap) (kn ++ [(gt l k).to_])) (hb : Below w0.heap.size w0 w) :
    Kn w0 l c T (some ⟨g, 0, none⟩) cap (kn ++ [(gt l k).to_]) w := by
  refine ⟨by rw [List.length_append]; exact hO, fun q hq n hr => ?_, ?_, hb⟩
  · rcases List.mem_append.1 hq with e | e
    · exact h.no q e n hr
    · rw [List.mem_singleton.1 e] at hr
      exact h.no _ (gs_mem kn I hI) (n + 1) ⟨k, ho, hr⟩
  · have := fresh_at l kn (gt l k) (gt_mem l k ho.1) hs
    have := h.bd
    rw [List.length_append, List.length_singleton]
    omega
end
theorem gs_left (kn : List ByteArray) (x : ByteArray) (I : Nat) (h : I < kn.length) : gs (kn ++ [x]) I = gs kn I := by
  unfold gs
  rw [List.getD_eq_getElem?_getD, List.getD_eq_getElem?_getD, List.getElem?_append_left h]
theorem inS_take (kn : List ByteArray) (x : ByteArray) (J : Nat) (h : J < kn.length) : inS (kn.take (J + 1)) x = (inS (kn.take J) x || decide (gs kn J = x)) := by
  rw [List.take_succ_eq_append_getElem h, inS_snoc]
  congr 2
  unfold gs
  rw [List.getD_eq_getElem?_getD, List.getElem?_eq_getElem h]
  rfl
theorem at_sc' {w : World} {b off : Nat} {xs : List ByteArray} (h : AtL w 1 sc (some ⟨b, off, none⟩) xs) (i : Nat) (hi : i < xs.length) : w.cell? ⟨b, off + i, none⟩ = some (.string (gs xs i)) := by
  obtain ⟨b', off', ha, hc⟩ := at_sc h i hi
  cases ha
  exact hc
theorem eqd (a b : ByteArray) : (a.toList == b.toList) = decide (a = b) := by
  by_cases h : a = b
  · rw [eq_yes h, decide_eq_true h]
  · rw [eq_no h, decide_eq_false h]
set_option maxRecDepth 100000 in
set_option maxHeartbeats 4000000 in
theorem reaches_any (a : Option Addr) (cL : Nat) (l : List Tr) (c p T : ByteArray) (w : World) (hn : l.length ≤ 1000) (hA : AtL w 4 trc a l) (hno : ∀ n, ¬ Rch l c T n p) :
    Calls Try.prog 26 #[.slice a l.length cL, .string c, .string p, .string T] w fun e w' => e = .returned (.bool false) ∧ Below w.heap.size w w' := by
  have HA := Lib.hid hA
  have hal := (Below.refl w.heap.size w).alloc (Nat.le_refl _) (.cells #[.string p] 9)
  have HK0 : Hid (Kn w l c T (some ⟨w.heap.size, 0, none⟩) 1 [p] (w.alloc (.cells #[.string p] 9))) :=
    ⟨⟨by simp [sc], .inr ⟨w.heap.size, 1, _, rfl, Nat.le_refl _, blk_new w _, Nat.le_refl _, by unfold maxLen; omega, by simp, by simp [sc]⟩⟩, fun q hq => by rw [List.mem_singleton.1 hq]; exact hno, by have := fresh_le l [p]; simp; omega, hal⟩
  clear hA hno hal
  go_enter Try.func26, Try.ntmps26
  go_wp2_with fail
  go_loopw [9, 10, 11, 12, 13] (fun kv i _ _ _ wr => ∃ (kn : List ByteArray) (I : Nat) (ka : Option Addr) (kc : Nat), kv = .slice ka kn.length kc ∧ i = .int .i64 I ∧ I ≤ kn.length ∧ Hid (Kn w l c T ka kc kn wr)) (fun _ i _ _ _ _ => l.length + 2 - (intOf i).toNat)
  case atStart => exact ⟨[p], 0, _, 1, rfl, rfl, by omega, HK0⟩
  case round =>
    clear HK0
    obtain ⟨kn, I, ka, kc, rfl, rfl, hI, HK⟩ := hrel
    have hkl := HK.out.bd
    rcases Nat.lt_or_ge I kn.length with hil | hge
    · have hki : (I : Int) < kn.length := by omega
      have hk0 : (0 : Int) ≤ (I : Int) := by omega
      obtain ⟨kb, ko, rfl, z0⟩ := at_sc (HK.out.own.sl sc_len).1 I hil
      have e1 := eq_no (HK.out.ne I hil)
      obtain ⟨q, hq⟩ : ∃ q, gs kn I = q := ⟨_, rfl⟩
      have HQ := Lib.hid hq
      rw [hq] at z0 e1
      clear hq
      go_wp2_with fail
      go_loopw [9, 11, 12, 13] (fun kv k _ _ wx => ∃ (kn2 : List ByteArray) (K : Nat) (ka : Option Addr) (kc : Nat), kv = .slice ka kn2.length kc ∧ k = .int .i64 K ∧ K ≤ l.length ∧ I < kn2.length ∧ Hid (gs kn2 I = q) ∧ Hid (Kn w l c T ka kc kn2 wx)) (fun _ k _ _ _ => l.length - (intOf k).toNat)
      case atStart => exact ⟨kn, 0, _, _, rfl, rfl, by omega, hil, HQ, HK⟩
      case round =>
        clear HQ HK z0 hki hkl hil hI
        obtain ⟨kn, K, ka, kc, rfl, rfl, hK, hil, HQ, HK⟩ := hrel
        have hkl := HK.out.bd
        rcases Nat.lt_or_ge K l.length with hkl2 | hge
        · have hki2 : (K : Int) < l.length := by omega
          have hk02 : (0 : Int) ≤ (K : Int) := by omega
          have hii : (I : Int) < kn.length := by omega
          obtain ⟨lb, lo, rfl, q0, q1, q2, q3⟩ := at_tr (HA.out.below HK.out.bel) K hkl2
          obtain ⟨kb2, ko2, rfl, z0⟩ := at_sc (HK.out.own.sl sc_len).1 I hil
          rw [HQ.out] at z0
          by_cases hc : (gt l K).con = c
          · have e2 := neq_no hc
            have e3 := eq_yes hc
            by_cases hf : (gt l K).fr = q
            · have e4 := neq_no hf
              have e5 := eq_yes hf
              have HO := Lib.hid (show Out l c (gs kn I) K from ⟨hkl2, hc, by rw [HQ.out]; exact hf⟩)
              clear hc hf
              go_wp2_with fail
              go_big_quiet (fail)
              have HKd := Lib.hid (HK.out.below (below_drewN (Below.refl _ _) nq))
              have q1d : (wr.drewN nq).cell? ⟨lb, lo + K * 4 + 1, none⟩ = some (.string (gt l K).to_) := q1
              clear q0 q2 q3 e2 e3 e4 e5 z0 q1
              generalize wr.drewN nq = wd at HKd q1d ⊢
              go_wp2_with fail
              go_loopw [12, 13] (fun b j wx => ∃ J : Nat, J ≤ kn.length ∧ j = .int .i64 J ∧ b = .bool (inS (kn.take J) (gt l K).to_) ∧ Hid (Below wd.heap.size wd wx)) (fun _ j _ => kn.length - (intOf j).toNat)
              case atStart => exact ⟨0, by omega, rfl, rfl, Below.refl _ _⟩
              case round =>
                obtain ⟨J, hJ, rfl, rfl, HB⟩ := hrel
                rcases Nat.lt_or_ge J kn.length with hjl | hge
                · have hkj : (J : Int) < kn.length := by omega
                  have hkj0 : (0 : Int) ≤ (J : Int) := by omega
                  have q1x := keep q1d HB.out
                  have zj := at_sc' ((HKd.out.own.below HB.out).sl sc_len).1 J hjl
                  have HT := Lib.hid (inS_take kn (gt l K).to_ J hjl)
                  obtain ⟨b, hb⟩ : ∃ b : Bool, inS (kn.take J) (gt l K).to_ = b := ⟨_, rfl⟩
                  rw [hb] at HT ⊢
                  clear hb
                  obtain ⟨d, hd⟩ : ∃ d : Bool, decide (gs kn J = (gt l K).to_) = d := ⟨_, rfl⟩
                  have e6 := (eqd (gs kn J) (gt l K).to_).trans hd
                  rw [hd] at HT
                  clear hd
                  cases b <;> cases d
                  all_goals
                    go_wp2_with fail
                    go_big_quiet (fail)
                    go_wp2_with fail
                    go_roundw
                    case rel => exact ⟨J + 1, by omega, by go_num, by rw [HT.out]; rfl, below_drewN HB.out _⟩
                    case measure => simp [intOf]; omega
                · obtain rfl : J = kn.length := by omega
                  rw [List.take_length]
                  have HKe := Lib.hid (HKd.out.below HB.out)
                  have q1x := keep q1d HB.out
                  obtain ⟨b, hb⟩ : ∃ b : Bool, inS kn (gt l K).to_ = b := ⟨_, rfl⟩
                  rw [hb]
                  have HBB := Lib.hid hb
                  clear hb
                  cases b
                  · have HX := Lib.hid (blk_new wr (.cells #[.string (gt l K).to_] 9))
                    have hal := (Below.refl wr.heap.size wr).alloc (Nat.le_refl _) (.cells #[.string (gt l K).to_] 9)
                    have HOx := Lib.hid (HKe.out.own.below hal)
                    have HBx := Lib.hid (bt HKe.out.bel hal (Nat.le_refl _))
                    have hsx := HBx.out.size
                    clear hal
                    go_wp2_with (at_builtin; refine wpList_append_L (P := Try.prog) (α := ByteArray) rfl _ _ _ rfl 9 (.string ⟨#[]⟩) 1 16 Try.underlying59 info_str rfl (by decide) w.heap.size sc (.slice (some ⟨kb2, ko2, none⟩) kn.length kc) kn (gt l K).to_ wr.heap.size #[.string (gt l K).to_] rfl rfl HOx.out HX.out rfl (sc_len _) (sc_one _) (by unfold maxLen; omega) (by omega) hsx ?_; intro g3 c3 w3 ho3 hg3 _)
                    have HG := Lib.hid (HKe.out.grow hil HO.out HBB.out ho3 (HBx.out.grown hg3 hsx (fun r e => (HOx.out.lt r e).1)))
                    clear ho3 hg3
                    go_roundw
                    case rel => exact ⟨kn ++ [(gt l K).to_], K + 1, _, c3, by rw [List.length_append]; rfl, by go_num, by omega, by rw [List.length_append]; omega, (gs_left kn _ I hil).trans HQ.out, HG⟩
                    case measure => simp [intOf]; omega
                  · go_wp2_with fail
                    go_roundw
                    case rel => exact ⟨kn, K + 1, _, kc, rfl, by go_num, by omega, hil, HQ, HKe⟩
                    case measure => simp [intOf]; omega
            · have e4 := neq_yes hf
              have e5 := eq_no hf
              clear hc hf
              go_wp2_with fail
              go_big_quiet (fail)
              go_wp2_with fail
              go_roundw
              case rel => exact ⟨kn, K + 1, _, kc, rfl, by go_num, by omega, hil, HQ, HK.out.below (below_drewN (Below.refl _ _) _)⟩
              case measure => simp [intOf]; omega
          · have e2 := neq_yes hc
            have e3 := eq_no hc
            clear hc
            go_wp2_with fail
            go_big_quiet (fail)
            go_wp2_with fail
            go_roundw
            case rel => exact ⟨kn, K + 1, _, kc, rfl, by go_num, by omega, hil, HQ, HK.out.below (below_drewN (Below.refl _ _) _)⟩
            case measure => simp [intOf]; omega
        · obtain rfl : K = l.length := by omega
          go_wp2_with fail
          go_roundw
          case rel => exact ⟨kn, I + 1, _, kc, rfl, by go_num, by omega, HK⟩
          case measure => simp [intOf]; omega
    · go_wp2_with fail
      go_ret
      exact ⟨rfl, HK.out.bel⟩
end Go.Proofs.Ytpphiohppgphnaa.Cs
