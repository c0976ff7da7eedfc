/-
  Compress: what valid trades are; the walks of Check, the program's and the reference's.
-/
import Derived.Test.YtpphiohppgphnaaCs2
namespace Go.Proofs.Ytpphiohppgphnaa.Cs
open Go.RowKit Go.Proofs.Ytpphiohppgphnaa Go.Proofs.Ytpphiohppgphnaa.Ls Go.Proofs.Ytpphiohppgphnaa.Kb Go.Proofs.Ytpphiohppgphnaa.Cz
open Go.Proofs.Ytpphiohppgphnaa.Nm hiding ret_bool ret_int hb'

def allB (n : Nat) (P : Nat → Bool) : Bool := (List.range n).all P
theorem allB_yes {n : Nat} {P : Nat → Bool} (h : ∀ i, i < n → P i = true) : allB n P = true := by
  unfold allB
  rw [List.all_eq_true]
  exact fun i hi => h i (List.mem_range.1 hi)
theorem allB_no {n : Nat} {P : Nat → Bool} (i : Nat) (hi : i < n) (h : P i = false) : allB n P = false := by
  unfold allB
  rw [List.all_eq_false]
  exact ⟨i, List.mem_range.2 hi, by simp [h]⟩
theorem allB_at {n : Nat} {P : Nat → Bool} (h : allB n P = true) (i : Nat) (hi : i < n) : P i = true := by
  unfold allB at h
  exact List.all_eq_true.1 h i (List.mem_range.2 hi)
theorem succ_all {P : Nat → Bool} {k : Nat} (h : ∀ i, i < k → P i = true) (hk : P k = true) : ∀ i, i < k + 1 → P i = true := fun i hi => by
  rcases Nat.lt_or_ge i k with g | g
  · exact h i g
  · obtain rfl : i = k := by omega
    exact hk
/-- a trade that is right by itself -/
def okT (x : Tr) : Bool := nm x.fr && nm x.to_ && nm x.con && !(x.fr.toList == x.to_.toList) && !decide (x.amt < 1) && !decide (1125899906842624 < x.amt)
/-- .. and behind the one ahead of it -/
def elT (l : List Tr) (i : Nat) : Bool := okT (gt l i) && (!decide ((0 : Int) < (i : Int)) || bef (gt l (i - 1)) (gt l i))
def vldB (l : List Tr) : Bool := allB l.length (elT l)
def chkE (l : List Tr) : Int := if 200 < l.length then 4 else if vldB l then 0 else 8
/-- strings of a size that there is -/
def SzT (l : List Tr) : Prop := ∀ i, (gt l i).fr.size ≤ maxLen ∧ (gt l i).to_.size ≤ maxLen ∧ (gt l i).con.size ≤ maxLen
theorem name_q (s : ByteArray) (w : World) (b : Bool) (hs : s.size ≤ maxLen) (h : nm s = b) : Calls Try.prog 33 #[.string s] w fun e w' => e = .returned (.bool b) ∧ w' = w := by
  subst h
  exact (name_any s w hs).mono fun _ _ h => ⟨h.1, h.2.symm⟩
theorem rname_q (s : ByteArray) (w : World) (b : Bool) (hs : s.size ≤ maxLen) (h : nm s = b) : Calls Try.prog 34 #[.string s] w fun e w' => e = .returned (.bool b) ∧ w' = w := by
  subst h
  exact (refName8_any s w hs).mono fun _ _ h => ⟨h.1, h.2.symm⟩
set_option maxRecDepth 100000 in
set_option maxHeartbeats 16000000 in
theorem check_any (a : Option Addr) (c : Nat) (l : List Tr) (w : World) (hn : l.length ≤ 1000000) (hZ : SzT l) (hA : AtL w 4 trc a l) :
    Calls Try.prog 21 #[.slice a l.length c] w fun e w' => e = .returned (.int .i64 (chkE l)) ∧ Below w.heap.size w w' := by
  have HA := Lib.hid hA
  have HZ := Lib.hid (show ∀ i, (gt l i).fr.size ≤ maxLen ∧ (gt l i).to_.size ≤ maxLen ∧ (gt l i).con.size ≤ maxLen from hZ)
  have HEL := Lib.hid (fun k => (show (!elT l k) = !(nm (gt l k).fr && nm (gt l k).to_ && nm (gt l k).con && !((gt l k).fr.toList == (gt l k).to_.toList) && !decide ((gt l k).amt < 1) && !decide (1125899906842624 < (gt l k).amt) && (!decide ((0 : Int) < (k : Int)) || bef (gt l (k - 1)) (gt l k))) from rfl))
  have HCE := Lib.hid (show chkE l = if 200 < l.length then 4 else if vldB l then 0 else 8 from rfl)
  generalize chkE l = E at HCE ⊢
  clear hA hZ
  by_cases h200 : 200 < l.length
  · rw [if_pos h200] at HCE
    have hgi : (200 : Int) < l.length := by omega
    clear h200
    go_enter Try.func21, Try.ntmps21
    go_wp2
    go_ret
    exact ⟨ret_int HCE.out.symm, Below.refl _ _⟩
  rw [if_neg h200] at HCE
  have hgi : ¬ (200 : Int) < l.length := by omega
  clear h200
  go_enter Try.func21, Try.ntmps21
  go_wp2_with fail
  go_loopw [3, 4, 10] (fun _ _ i wr => ∃ k : Nat, k ≤ l.length ∧ i = .int .i64 k ∧ Hid (∀ i, i < k → elT l i = true) ∧ Below w.heap.size w wr) (fun _ _ i _ => l.length - (intOf i).toNat)
  case atStart => exact ⟨0, by omega, rfl, fun i hi => by omega, Below.refl _ _⟩
  case round =>
    obtain ⟨k, hk, rfl, HG, hbw⟩ := hrel
    rcases Nat.lt_or_ge k l.length with hlt | hge
    · have hki : (k : Int) < l.length := by omega
      have hki0 : (0 : Int) ≤ (k : Int) := by omega
      obtain ⟨lb, lo, rfl, q0, q1, q2, q3⟩ := at_tr (HA.out.below hbw) k hlt
      obtain ⟨r0, r1, r2, r3⟩ := at_tr' (HA.out.below hbw) (k - 1) (by omega)
      obtain ⟨hz1, hz2, hz3⟩ := HZ.out k
      have HZ1 := Lib.hid hz1
      have HZ2 := Lib.hid hz2
      have HZ3 := Lib.hid hz3
      clear hz1 hz2 hz3
      obtain ⟨bd, hbd⟩ : ∃ bd, bd = !elT l k := ⟨_, rfl⟩
      have HBE := Lib.hid hbd
      rw [HEL.out k] at hbd
      have HBD := Lib.hid hbd
      clear hbd
      generalize gt l (k - 1) = p at *
      generalize gt l k = x at *
      obtain ⟨xf, xt, xc, xa⟩ := x
      obtain ⟨pf, pt, pc, pa⟩ := p
      dsimp only at q0 q1 q2 q3 r0 r1 r2 r3 HZ1 HZ2 HZ3 HBD
      have hbz : Below w.heap.size w (wr.alloc (.cells #[.string xf, .string xt, .string xc, .int .i64 xa] 31)) := hbw.alloc hbw.size _
      have HX := Lib.hid (blk_new wr (.cells #[.string xf, .string xt, .string xc, .int .i64 xa] 31))
      have HP := Lib.hid (And.intro r0 (And.intro r1 (And.intro r2 r3)))
      clear r0 r1 r2 r3
      go_wp2_with fail
      have HP2 := Lib.hid (fun wx (hx : Below (wr.alloc (.cells #[.string xf, .string xt, .string xc, .int .i64 xa] 31)).heap.size (wr.alloc (.cells #[.string xf, .string xt, .string xc, .int .i64 xa] 31)) wx) => (show wx.cell? ⟨wr.heap.size, 0, none⟩ = some (.string xf) ∧ wx.cell? ⟨wr.heap.size, 1, none⟩ = some (.string xt) ∧ wx.cell? ⟨wr.heap.size, 2, none⟩ = some (.string xc) ∧ wx.cell? ⟨wr.heap.size, 3, none⟩ = some (.int .i64 xa) ∧ wx.cell? ⟨lb, lo + (k - 1) * 4, none⟩ = some (.string pf) ∧ wx.cell? ⟨lb, lo + (k - 1) * 4 + 1, none⟩ = some (.string pt) ∧ wx.cell? ⟨lb, lo + (k - 1) * 4 + 2, none⟩ = some (.string pc) ∧ wx.cell? ⟨lb, lo + (k - 1) * 4 + 3, none⟩ = some (.int .i64 pa) from
        ⟨cell_of (blk_keep HX.out hx) 0 _ rfl, cell_of (blk_keep HX.out hx) 1 _ rfl, cell_of (blk_keep HX.out hx) 2 _ rfl, cell_of (blk_keep HX.out hx) 3 _ rfl, keep (keep HP.out.1 ((Below.refl _ _).alloc (Nat.le_refl _) _)) hx, keep (keep HP.out.2.1 ((Below.refl _ _).alloc (Nat.le_refl _) _)) hx, keep (keep HP.out.2.2.1 ((Below.refl _ _).alloc (Nat.le_refl _) _)) hx, keep (keep HP.out.2.2.2 ((Below.refl _ _).alloc (Nat.le_refl _) _)) hx⟩))
      have hsz : wr.heap.size < (wr.alloc (.cells #[.string xf, .string xt, .string xc, .int .i64 xa] 31)).heap.size := by simp
      have hlb : lb < (wr.alloc (.cells #[.string xf, .string xt, .string xc, .int .i64 xa] 31)).heap.size := by have h9 : lb < wr.heap.size := World.block_lt_of_cell? _ _ HP.out.1; simp; omega
      clear q0 q1 q2 q3 hbw HP HX
      generalize hzs : wr.heap.size = zs at *
      generalize wr.alloc (.cells #[.string xf, .string xt, .string xc, .int .i64 xa] 31) = wq at *
      have HB := HP2
      clear HP2
      have HB0 := Lib.hid (show wq.cell? ⟨zs, 0, none⟩ = some (.string xf) ∧ wq.cell? ⟨zs, 1, none⟩ = some (.string xt) ∧ wq.cell? ⟨zs, 2, none⟩ = some (.string xc) ∧ wq.cell? ⟨zs, 3, none⟩ = some (.int .i64 xa) from ⟨(HB.out wq (Below.refl _ _)).1, (HB.out wq (Below.refl _ _)).2.1, (HB.out wq (Below.refl _ _)).2.2.1, (HB.out wq (Below.refl _ _)).2.2.2.1⟩)
      have k0 : Below wq.heap.size wq wq := Below.refl _ _
      have kd := k0.drew
      clear hzs
      go_upto_region 6 with fail
      go_cut [61] from 15 to 61 (fun q wn => q = .bool bd ∧ Hid (Below wq.heap.size wq wn))
      case first =>
        rcases hb (nm xf) with h1 | h1
        · rcases hb (nm xt) with h2 | h2
          · rcases hb (nm xc) with h3 | h3
            · rcases hb (xf.toList == xt.toList) with h4 | h4
              · obtain rfl : bd = true := by rw [HBD.out, h1, h2, h3, h4]; simp
                clear HBD
                obtain ⟨x0, x1, x2, x3⟩ := HB0.out
                go_big_quiet ((go_at_call 33; exact Calls.quiet_of_same (name_q _ _ _ (by first | exact HZ1.out | exact HZ2.out | exact HZ3.out) (by first | exact h1 | exact h2 | exact h3))))
                go_wp2
                go_meet
                case rel => exact ⟨rfl, Lib.hid (below_drewN (Below.refl _ _) _)⟩
              · rcases hb (decide (xa < 1)) with h5 | h5
                · obtain rfl : bd = true := by rw [HBD.out, h1, h2, h3, h4, h5]; simp
                  clear HBD
                  obtain ⟨x0, x1, x2, x3⟩ := HB0.out
                  go_big_quiet ((go_at_call 33; exact Calls.quiet_of_same (name_q _ _ _ (by first | exact HZ1.out | exact HZ2.out | exact HZ3.out) (by first | exact h1 | exact h2 | exact h3))))
                  go_wp2
                  go_meet
                  case rel => exact ⟨rfl, Lib.hid (below_drewN (Below.refl _ _) _)⟩
                · rcases hb (decide (1125899906842624 < xa)) with h6 | h6
                  · obtain rfl : bd = true := by rw [HBD.out, h1, h2, h3, h4, h5, h6]; simp
                    clear HBD
                    obtain ⟨x0, x1, x2, x3⟩ := HB0.out
                    go_big_quiet ((go_at_call 33; exact Calls.quiet_of_same (name_q _ _ _ (by first | exact HZ1.out | exact HZ2.out | exact HZ3.out) (by first | exact h1 | exact h2 | exact h3))))
                    go_wp2
                    go_meet
                    case rel => exact ⟨rfl, Lib.hid (below_drewN (Below.refl _ _) _)⟩
                  · by_cases h7 : k = 0
                    · have hk7 := h7
                      obtain rfl : bd = false := by rw [HBD.out, h1, h2, h3, h4, h5, h6, decide_eq_false (show ¬ (0 : Int) < (k : Int) by omega)]; simp
                      have hk0 : decide (0 < k) = false := decide_eq_false (by omega)
                      clear h7 hk7
                      clear HBD
                      obtain ⟨x0, x1, x2, x3⟩ := HB0.out
                      go_big_quiet ((go_at_call 33; exact Calls.quiet_of_same (name_q _ _ _ (by first | exact HZ1.out | exact HZ2.out | exact HZ3.out) (by first | exact h1 | exact h2 | exact h3))))
                      go_wp2
                      go_meet
                      case rel => exact ⟨rfl, Lib.hid (below_drewN (Below.refl _ _) _)⟩
                    · rcases hb (bef ⟨pf, pt, pc, pa⟩ ⟨xf, xt, xc, xa⟩) with h8 | h8
                      · have hk7 := h7
                        obtain rfl : bd = false := by rw [HBD.out, h1, h2, h3, h4, h5, h6, h8, decide_eq_true (show (0 : Int) < (k : Int) by omega)]; simp
                        have ho : decide (0 ≤ ordI ⟨pf, pt, pc, pa⟩ ⟨xf, xt, xc, xa⟩) = false := by rw [ordI_bef, h8]; rfl
                        have hk1 : (0 : Int) < (k : Int) := by omega
                        have hk2 : (1 : Int) ≤ (k : Int) := hk1
                        have hk3 : (0 : Int) ≤ (k : Int) - 1 := by omega
                        have hk4 : (k : Int) - 1 < (l.length : Int) := by omega
                        have hk5 : IntKind.i64.wrap ((k : Int) - 1) = (k : Int) - 1 := IntWalk.i64_in _ (by omega)
                        have hk6 : ((k : Int) - 1).toNat = k - 1 := by omega
                        have hk0 : decide (0 < k) = true := decide_eq_true (by omega)
                        have hk7' : (k : Int) ≤ (l.length : Int) := by omega
                        clear h7 hk7 h8
                        clear HBD
                        obtain ⟨x0, x1, x2, x3, p0, p1, p2, p3⟩ := HB.out wq (Below.refl _ _)
                        go_region_held3 (fun w' => w'.cell? ⟨zs, 0, none⟩ = some (.string xf) ∧ w'.cell? ⟨zs, 1, none⟩ = some (.string xt) ∧ w'.cell? ⟨zs, 2, none⟩ = some (.string xc) ∧ w'.cell? ⟨zs, 3, none⟩ = some (.int .i64 xa) ∧ w'.cell? ⟨lb, lo + (k - 1) * 4, none⟩ = some (.string pf) ∧ w'.cell? ⟨lb, lo + (k - 1) * 4 + 1, none⟩ = some (.string pt) ∧ w'.cell? ⟨lb, lo + (k - 1) * 4 + 2, none⟩ = some (.string pc) ∧ w'.cell? ⟨lb, lo + (k - 1) * 4 + 3, none⟩ = some (.int .i64 pa))
                          (first | with_reducible exact HB.out _ (by assumption) | with_reducible exact HB.out _ (Below.drew (by assumption)) | go_keep)
                          (first | (go_at_call 33; refine (name_q _ _ _ (by first | exact HZ1.out | exact HZ2.out | exact HZ3.out) (by first | exact h1 | exact h2 | exact h3)).mono ?_; rintro e w' ⟨rfl, rfl⟩) | (go_at_call 35; refine (order_any ⟨pf, pt, pc, pa⟩ ⟨xf, xt, xc, xa⟩ _).mono ?_; rintro e w3 ⟨rfl, hb3⟩; have k3 : Below wq.heap.size wq w3 := bt kd hb3 (Nat.le_refl _)))
                        all_goals
                          go_wp2
                          go_meet
                          case rel => exact ⟨rfl, Lib.hid (by first | exact k3 | exact k3.drew)⟩
                      · have hk7 := h7
                        obtain rfl : bd = true := by rw [HBD.out, h1, h2, h3, h4, h5, h6, h8, decide_eq_true (show (0 : Int) < (k : Int) by omega)]; simp
                        have ho : decide (0 ≤ ordI ⟨pf, pt, pc, pa⟩ ⟨xf, xt, xc, xa⟩) = true := by rw [ordI_bef, h8]; rfl
                        have hk1 : (0 : Int) < (k : Int) := by omega
                        have hk2 : (1 : Int) ≤ (k : Int) := hk1
                        have hk3 : (0 : Int) ≤ (k : Int) - 1 := by omega
                        have hk4 : (k : Int) - 1 < (l.length : Int) := by omega
                        have hk5 : IntKind.i64.wrap ((k : Int) - 1) = (k : Int) - 1 := IntWalk.i64_in _ (by omega)
                        have hk6 : ((k : Int) - 1).toNat = k - 1 := by omega
                        have hk0 : decide (0 < k) = true := decide_eq_true (by omega)
                        have hk7' : (k : Int) ≤ (l.length : Int) := by omega
                        clear h7 hk7 h8
                        clear HBD
                        obtain ⟨x0, x1, x2, x3, p0, p1, p2, p3⟩ := HB.out wq (Below.refl _ _)
                        go_region_held3 (fun w' => w'.cell? ⟨zs, 0, none⟩ = some (.string xf) ∧ w'.cell? ⟨zs, 1, none⟩ = some (.string xt) ∧ w'.cell? ⟨zs, 2, none⟩ = some (.string xc) ∧ w'.cell? ⟨zs, 3, none⟩ = some (.int .i64 xa) ∧ w'.cell? ⟨lb, lo + (k - 1) * 4, none⟩ = some (.string pf) ∧ w'.cell? ⟨lb, lo + (k - 1) * 4 + 1, none⟩ = some (.string pt) ∧ w'.cell? ⟨lb, lo + (k - 1) * 4 + 2, none⟩ = some (.string pc) ∧ w'.cell? ⟨lb, lo + (k - 1) * 4 + 3, none⟩ = some (.int .i64 pa))
                          (first | with_reducible exact HB.out _ (by assumption) | with_reducible exact HB.out _ (Below.drew (by assumption)) | go_keep)
                          (first | (go_at_call 33; refine (name_q _ _ _ (by first | exact HZ1.out | exact HZ2.out | exact HZ3.out) (by first | exact h1 | exact h2 | exact h3)).mono ?_; rintro e w' ⟨rfl, rfl⟩) | (go_at_call 35; refine (order_any ⟨pf, pt, pc, pa⟩ ⟨xf, xt, xc, xa⟩ _).mono ?_; rintro e w3 ⟨rfl, hb3⟩; have k3 : Below wq.heap.size wq w3 := bt kd hb3 (Nat.le_refl _)))
                        all_goals
                          go_wp2
                          go_meet
                          case rel => exact ⟨rfl, Lib.hid (by first | exact k3 | exact k3.drew)⟩
            · obtain rfl : bd = true := by rw [HBD.out, h1, h2, h3]; simp
              clear HBD
              obtain ⟨x0, x1, x2, x3⟩ := HB0.out
              go_big_quiet ((go_at_call 33; exact Calls.quiet_of_same (name_q _ _ _ (by first | exact HZ1.out | exact HZ2.out | exact HZ3.out) (by first | exact h1 | exact h2 | exact h3))))
              go_wp2
              go_meet
              case rel => exact ⟨rfl, Lib.hid (below_drewN (Below.refl _ _) _)⟩
          · obtain rfl : bd = true := by rw [HBD.out, h1, h2]; simp
            clear HBD
            obtain ⟨x0, x1, x2, x3⟩ := HB0.out
            go_big_quiet ((go_at_call 33; exact Calls.quiet_of_same (name_q _ _ _ (by first | exact HZ1.out | exact HZ2.out) (by first | exact h1 | exact h2))))
            go_wp2
            go_meet
            case rel => exact ⟨rfl, Lib.hid (below_drewN (Below.refl _ _) _)⟩
        · obtain rfl : bd = true := by rw [HBD.out, h1]; simp
          clear HBD
          obtain ⟨x0, x1, x2, x3⟩ := HB0.out
          go_big_quiet ((go_at_call 33; exact Calls.quiet_of_same (name_q _ _ _ (by first | exact HZ1.out) (by first | exact h1))))
          go_wp2
          go_meet
          case rel => exact ⟨rfl, Lib.hid (below_drewN (Below.refl _ _) _)⟩
      case rest =>
        obtain ⟨rfl, HQ⟩ := hcut
        have HN := Lib.hid (hbz.trans (HQ.out.mono hbz.size))
        clear HB HB0 k0 kd hsz hlb HQ hbz HBD
        rcases hb bd with rfl | rfl
        · have HV := Lib.hid (show vldB l = false from allB_no k hlt (by have := HBE.out; revert this; cases elT l k <;> simp))
          rw [HV.out, if_neg (by decide)] at HCE
          go_wp2
          go_ret
          exact ⟨ret_int HCE.out.symm, HN.out⟩
        · have HG2 := Lib.hid (succ_all HG.out (show elT l k = true by have := HBE.out; revert this; cases elT l k <;> simp))
          go_wp2
          go_roundw
          case rel => exact ⟨k + 1, by omega, by go_num, HG2, HN.out⟩
          case measure => simp [intOf]; omega
    · obtain rfl : k = l.length := by omega
      rw [show vldB l = true from allB_yes HG.out, if_pos rfl] at HCE
      go_wp2
      go_ret
      exact ⟨ret_int HCE.out.symm, hbw⟩
set_option maxRecDepth 100000 in
set_option maxHeartbeats 16000000 in
theorem rcheck_any (a : Option Addr) (c : Nat) (l : List Tr) (w : World) (hn : l.length ≤ 1000000) (hZ : SzT l) (hA : AtL w 4 trc a l) :
    Calls Try.prog 22 #[.slice a l.length c] w fun e w' => e = .returned (.int .i64 (chkE l)) ∧ Below w.heap.size w w' := by
  have HA := Lib.hid hA
  have HZ := Lib.hid (show ∀ i, (gt l i).fr.size ≤ maxLen ∧ (gt l i).to_.size ≤ maxLen ∧ (gt l i).con.size ≤ maxLen from hZ)
  have HEL := Lib.hid (fun k => (show (!elT l k) = !(nm (gt l k).fr && nm (gt l k).to_ && nm (gt l k).con && !((gt l k).fr.toList == (gt l k).to_.toList) && !decide ((gt l k).amt < 1) && !decide (1125899906842624 < (gt l k).amt) && (!decide ((0 : Int) < (k : Int)) || bef (gt l (k - 1)) (gt l k))) from rfl))
  have HCE := Lib.hid (show chkE l = if 200 < l.length then 4 else if vldB l then 0 else 8 from rfl)
  generalize chkE l = E at HCE ⊢
  clear hA hZ
  by_cases h200 : 200 < l.length
  · rw [if_pos h200] at HCE
    have hgi : (200 : Int) < l.length := by omega
    clear h200
    go_enter Try.func22, Try.ntmps22
    go_wp2
    go_ret
    exact ⟨ret_int HCE.out.symm, Below.refl _ _⟩
  rw [if_neg h200] at HCE
  have hgi : ¬ (200 : Int) < l.length := by omega
  clear h200
  go_enter Try.func22, Try.ntmps22
  go_wp2_with fail
  go_loopw [3, 4] (fun i _ wr => ∃ k : Nat, k ≤ l.length ∧ i = .int .i64 k ∧ Hid (∀ i, i < k → elT l i = true) ∧ Below w.heap.size w wr) (fun i _ _ => l.length - (intOf i).toNat)
  case atStart => exact ⟨0, by omega, rfl, fun i hi => by omega, Below.refl _ _⟩
  case round =>
    obtain ⟨k, hk, rfl, HG, hbw⟩ := hrel
    rcases Nat.lt_or_ge k l.length with hlt | hge
    · have hki : (k : Int) < l.length := by omega
      have hki0 : (0 : Int) ≤ (k : Int) := by omega
      obtain ⟨lb, lo, rfl, q0, q1, q2, q3⟩ := at_tr (HA.out.below hbw) k hlt
      obtain ⟨r0, r1, r2, r3⟩ := at_tr' (HA.out.below hbw) (k - 1) (by omega)
      obtain ⟨hz1, hz2, hz3⟩ := HZ.out k
      have HZ1 := Lib.hid hz1
      have HZ2 := Lib.hid hz2
      have HZ3 := Lib.hid hz3
      clear hz1 hz2 hz3
      obtain ⟨bd, hbd⟩ : ∃ bd, bd = !elT l k := ⟨_, rfl⟩
      have HBE := Lib.hid hbd
      rw [HEL.out k] at hbd
      have HBD := Lib.hid hbd
      clear hbd
      generalize gt l (k - 1) = p at *
      generalize gt l k = x at *
      obtain ⟨xf, xt, xc, xa⟩ := x
      obtain ⟨pf, pt, pc, pa⟩ := p
      dsimp only at q0 q1 q2 q3 r0 r1 r2 r3 HZ1 HZ2 HZ3 HBD
      have hbz : Below w.heap.size w (wr.alloc (.cells #[.string xf, .string xt, .string xc, .int .i64 xa] 31)) := hbw.alloc hbw.size _
      have HX := Lib.hid (blk_new wr (.cells #[.string xf, .string xt, .string xc, .int .i64 xa] 31))
      have HP := Lib.hid (And.intro r0 (And.intro r1 (And.intro r2 r3)))
      clear r0 r1 r2 r3
      rcases hb (nm xf) with h1 | h1
      · rcases hb (nm xt) with h2 | h2
        · rcases hb (nm xc) with h3 | h3
          · rcases hb (xf.toList == xt.toList) with h4 | h4
            · obtain rfl : bd = true := by rw [HBD.out, h1, h2, h3, h4]; simp
              have HV := Lib.hid (show vldB l = false from allB_no k hlt (by have := HBE.out; revert this; cases elT l k <;> simp))
              rw [HV.out, if_neg (by decide)] at HCE
              clear HBD HBE
              obtain ⟨r0, r1, r2, r3⟩ := HP.out
              go_wp2_with (go_at_call 34; refine (rname_q _ _ _ (by first | exact HZ1.out | exact HZ2.out | exact HZ3.out) (by first | exact h1 | exact h2 | exact h3)).mono ?_; rintro e w' ⟨rfl, rfl⟩)
              go_ret
              exact ⟨ret_int HCE.out.symm, hbz⟩
            · rcases hb (decide (xa < 1)) with h5 | h5
              · obtain rfl : bd = true := by rw [HBD.out, h1, h2, h3, h4, h5]; simp
                have HV := Lib.hid (show vldB l = false from allB_no k hlt (by have := HBE.out; revert this; cases elT l k <;> simp))
                rw [HV.out, if_neg (by decide)] at HCE
                clear HBD HBE
                obtain ⟨r0, r1, r2, r3⟩ := HP.out
                go_wp2_with (go_at_call 34; refine (rname_q _ _ _ (by first | exact HZ1.out | exact HZ2.out | exact HZ3.out) (by first | exact h1 | exact h2 | exact h3)).mono ?_; rintro e w' ⟨rfl, rfl⟩)
                go_ret
                exact ⟨ret_int HCE.out.symm, hbz⟩
              · rcases hb (decide (1125899906842624 < xa)) with h6 | h6
                · obtain rfl : bd = true := by rw [HBD.out, h1, h2, h3, h4, h5, h6]; simp
                  have HV := Lib.hid (show vldB l = false from allB_no k hlt (by have := HBE.out; revert this; cases elT l k <;> simp))
                  rw [HV.out, if_neg (by decide)] at HCE
                  clear HBD HBE
                  obtain ⟨r0, r1, r2, r3⟩ := HP.out
                  go_wp2_with (go_at_call 34; refine (rname_q _ _ _ (by first | exact HZ1.out | exact HZ2.out | exact HZ3.out) (by first | exact h1 | exact h2 | exact h3)).mono ?_; rintro e w' ⟨rfl, rfl⟩)
                  go_ret
                  exact ⟨ret_int HCE.out.symm, hbz⟩
                · by_cases h7 : k = 0
                  · have hk7 := h7
                    obtain rfl : bd = false := by rw [HBD.out, h1, h2, h3, h4, h5, h6, decide_eq_false (show ¬ (0 : Int) < (k : Int) by omega)]; simp
                    have HG2 := Lib.hid (succ_all HG.out (show elT l k = true by have := HBE.out; revert this; cases elT l k <;> simp))
                    have hk0 : decide (0 < k) = false := decide_eq_false (by omega)
                    clear h7 hk7
                    clear HBD HBE
                    obtain ⟨r0, r1, r2, r3⟩ := HP.out
                    go_wp2_with (go_at_call 34; refine (rname_q _ _ _ (by first | exact HZ1.out | exact HZ2.out | exact HZ3.out) (by first | exact h1 | exact h2 | exact h3)).mono ?_; rintro e w' ⟨rfl, rfl⟩)
                    go_big_quiet (fail)
                    go_wp2
                    go_roundw
                    case rel => exact ⟨k + 1, by omega, by go_num, HG2, below_drewN hbz _⟩
                    case measure => simp [intOf]; omega
                  · rcases hb (bef ⟨pf, pt, pc, pa⟩ ⟨xf, xt, xc, xa⟩) with h8 | h8
                    · have hk7 := h7
                      obtain rfl : bd = false := by rw [HBD.out, h1, h2, h3, h4, h5, h6, h8, decide_eq_true (show (0 : Int) < (k : Int) by omega)]; simp
                      have HG2 := Lib.hid (succ_all HG.out (show elT l k = true by have := HBE.out; revert this; cases elT l k <;> simp))
                      have hbf : bef ⟨pf, pt, pc, pa⟩ ⟨xf, xt, xc, xa⟩ = true := h8
                      have hk1 : (0 : Int) < (k : Int) := by omega
                      have hk2 : (1 : Int) ≤ (k : Int) := hk1
                      have hk3 : (0 : Int) ≤ (k : Int) - 1 := by omega
                      have hk4 : (k : Int) - 1 < (l.length : Int) := by omega
                      have hk5 : IntKind.i64.wrap ((k : Int) - 1) = (k : Int) - 1 := IntWalk.i64_in _ (by omega)
                      have hk6 : ((k : Int) - 1).toNat = k - 1 := by omega
                      have hk0 : decide (0 < k) = true := decide_eq_true (by omega)
                      have hk7' : (k : Int) ≤ (l.length : Int) := by omega
                      clear h7 hk7 h8
                      clear HBD HBE
                      obtain ⟨r0, r1, r2, r3⟩ := HP.out
                      go_wp2_with (go_at_call 34; refine (rname_q _ _ _ (by first | exact HZ1.out | exact HZ2.out | exact HZ3.out) (by first | exact h1 | exact h2 | exact h3)).mono ?_; rintro e w' ⟨rfl, rfl⟩)
                      have HB := Lib.hid (fun wx (hx : Below (wr.alloc (.cells #[.string xf, .string xt, .string xc, .int .i64 xa] 31)).heap.size (wr.alloc (.cells #[.string xf, .string xt, .string xc, .int .i64 xa] 31)) wx) => (show wx.cell? ⟨wr.heap.size, 0, none⟩ = some (.string xf) ∧ wx.cell? ⟨wr.heap.size, 1, none⟩ = some (.string xt) ∧ wx.cell? ⟨wr.heap.size, 2, none⟩ = some (.string xc) ∧ wx.cell? ⟨wr.heap.size, 3, none⟩ = some (.int .i64 xa) ∧ wx.cell? ⟨lb, lo + (k - 1) * 4, none⟩ = some (.string pf) ∧ wx.cell? ⟨lb, lo + (k - 1) * 4 + 1, none⟩ = some (.string pt) ∧ wx.cell? ⟨lb, lo + (k - 1) * 4 + 2, none⟩ = some (.string pc) ∧ wx.cell? ⟨lb, lo + (k - 1) * 4 + 3, none⟩ = some (.int .i64 pa) from
                        ⟨cell_of (blk_keep HX.out hx) 0 _ rfl, cell_of (blk_keep HX.out hx) 1 _ rfl, cell_of (blk_keep HX.out hx) 2 _ rfl, cell_of (blk_keep HX.out hx) 3 _ rfl, keep (keep HP.out.1 ((Below.refl _ _).alloc (Nat.le_refl _) _)) hx, keep (keep HP.out.2.1 ((Below.refl _ _).alloc (Nat.le_refl _) _)) hx, keep (keep HP.out.2.2.1 ((Below.refl _ _).alloc (Nat.le_refl _) _)) hx, keep (keep HP.out.2.2.2 ((Below.refl _ _).alloc (Nat.le_refl _) _)) hx⟩))
                      clear r0 r1 r2 r3 q0 q1 q2 q3 HX HP
                      generalize hzs : wr.heap.size = zs at HB ⊢
                      generalize wr.alloc (.cells #[.string xf, .string xt, .string xc, .int .i64 xa] 31) = wq at HB hbz ⊢
                      clear hzs
                      have k0 : Below wq.heap.size wq wq := Below.refl _ _
                      have kd := k0.drew
                      obtain ⟨x0, x1, x2, x3, p0, p1, p2, p3⟩ := HB.out wq (Below.refl _ _)
                      go_region_held3 (fun w' => w'.cell? ⟨zs, 0, none⟩ = some (.string xf) ∧ w'.cell? ⟨zs, 1, none⟩ = some (.string xt) ∧ w'.cell? ⟨zs, 2, none⟩ = some (.string xc) ∧ w'.cell? ⟨zs, 3, none⟩ = some (.int .i64 xa) ∧ w'.cell? ⟨lb, lo + (k - 1) * 4, none⟩ = some (.string pf) ∧ w'.cell? ⟨lb, lo + (k - 1) * 4 + 1, none⟩ = some (.string pt) ∧ w'.cell? ⟨lb, lo + (k - 1) * 4 + 2, none⟩ = some (.string pc) ∧ w'.cell? ⟨lb, lo + (k - 1) * 4 + 3, none⟩ = some (.int .i64 pa))
                        (first | with_reducible exact HB.out _ (by assumption) | with_reducible exact HB.out _ (Below.drew (by assumption)) | go_keep)
                        ((go_at_call 36; refine (before_any ⟨pf, pt, pc, pa⟩ ⟨xf, xt, xc, xa⟩ _).mono ?_; rintro e w3 ⟨rfl, hb3⟩; have k3 : Below wq.heap.size wq w3 := bt kd hb3 (Nat.le_refl _); rw [hbf]))
                      have HN := Lib.hid (hbz.trans ((show Below wq.heap.size wq _ from by first | exact k3 | exact k3.drew).mono hbz.size))
                      clear k3 k0 kd x0 x1 x2 x3 p0 p1 p2 p3 HB hb3
                      go_wp2
                      go_roundw
                      case rel => exact ⟨k + 1, by omega, by go_num, HG2, HN.out⟩
                      case measure => simp [intOf]; omega
                    · have hk7 := h7
                      obtain rfl : bd = true := by rw [HBD.out, h1, h2, h3, h4, h5, h6, h8, decide_eq_true (show (0 : Int) < (k : Int) by omega)]; simp
                      have HV := Lib.hid (show vldB l = false from allB_no k hlt (by have := HBE.out; revert this; cases elT l k <;> simp))
                      rw [HV.out, if_neg (by decide)] at HCE
                      have hbf : bef ⟨pf, pt, pc, pa⟩ ⟨xf, xt, xc, xa⟩ = false := h8
                      have hk1 : (0 : Int) < (k : Int) := by omega
                      have hk2 : (1 : Int) ≤ (k : Int) := hk1
                      have hk3 : (0 : Int) ≤ (k : Int) - 1 := by omega
                      have hk4 : (k : Int) - 1 < (l.length : Int) := by omega
                      have hk5 : IntKind.i64.wrap ((k : Int) - 1) = (k : Int) - 1 := IntWalk.i64_in _ (by omega)
                      have hk6 : ((k : Int) - 1).toNat = k - 1 := by omega
                      have hk0 : decide (0 < k) = true := decide_eq_true (by omega)
                      have hk7' : (k : Int) ≤ (l.length : Int) := by omega
                      clear h7 hk7 h8
                      clear HBD HBE
                      obtain ⟨r0, r1, r2, r3⟩ := HP.out
                      go_wp2_with (go_at_call 34; refine (rname_q _ _ _ (by first | exact HZ1.out | exact HZ2.out | exact HZ3.out) (by first | exact h1 | exact h2 | exact h3)).mono ?_; rintro e w' ⟨rfl, rfl⟩)
                      have HB := Lib.hid (fun wx (hx : Below (wr.alloc (.cells #[.string xf, .string xt, .string xc, .int .i64 xa] 31)).heap.size (wr.alloc (.cells #[.string xf, .string xt, .string xc, .int .i64 xa] 31)) wx) => (show wx.cell? ⟨wr.heap.size, 0, none⟩ = some (.string xf) ∧ wx.cell? ⟨wr.heap.size, 1, none⟩ = some (.string xt) ∧ wx.cell? ⟨wr.heap.size, 2, none⟩ = some (.string xc) ∧ wx.cell? ⟨wr.heap.size, 3, none⟩ = some (.int .i64 xa) ∧ wx.cell? ⟨lb, lo + (k - 1) * 4, none⟩ = some (.string pf) ∧ wx.cell? ⟨lb, lo + (k - 1) * 4 + 1, none⟩ = some (.string pt) ∧ wx.cell? ⟨lb, lo + (k - 1) * 4 + 2, none⟩ = some (.string pc) ∧ wx.cell? ⟨lb, lo + (k - 1) * 4 + 3, none⟩ = some (.int .i64 pa) from
                        ⟨cell_of (blk_keep HX.out hx) 0 _ rfl, cell_of (blk_keep HX.out hx) 1 _ rfl, cell_of (blk_keep HX.out hx) 2 _ rfl, cell_of (blk_keep HX.out hx) 3 _ rfl, keep (keep HP.out.1 ((Below.refl _ _).alloc (Nat.le_refl _) _)) hx, keep (keep HP.out.2.1 ((Below.refl _ _).alloc (Nat.le_refl _) _)) hx, keep (keep HP.out.2.2.1 ((Below.refl _ _).alloc (Nat.le_refl _) _)) hx, keep (keep HP.out.2.2.2 ((Below.refl _ _).alloc (Nat.le_refl _) _)) hx⟩))
                      clear r0 r1 r2 r3 q0 q1 q2 q3 HX HP
                      generalize hzs : wr.heap.size = zs at HB ⊢
                      generalize wr.alloc (.cells #[.string xf, .string xt, .string xc, .int .i64 xa] 31) = wq at HB hbz ⊢
                      clear hzs
                      have k0 : Below wq.heap.size wq wq := Below.refl _ _
                      have kd := k0.drew
                      obtain ⟨x0, x1, x2, x3, p0, p1, p2, p3⟩ := HB.out wq (Below.refl _ _)
                      go_region_held3 (fun w' => w'.cell? ⟨zs, 0, none⟩ = some (.string xf) ∧ w'.cell? ⟨zs, 1, none⟩ = some (.string xt) ∧ w'.cell? ⟨zs, 2, none⟩ = some (.string xc) ∧ w'.cell? ⟨zs, 3, none⟩ = some (.int .i64 xa) ∧ w'.cell? ⟨lb, lo + (k - 1) * 4, none⟩ = some (.string pf) ∧ w'.cell? ⟨lb, lo + (k - 1) * 4 + 1, none⟩ = some (.string pt) ∧ w'.cell? ⟨lb, lo + (k - 1) * 4 + 2, none⟩ = some (.string pc) ∧ w'.cell? ⟨lb, lo + (k - 1) * 4 + 3, none⟩ = some (.int .i64 pa))
                        (first | with_reducible exact HB.out _ (by assumption) | with_reducible exact HB.out _ (Below.drew (by assumption)) | go_keep)
                        ((go_at_call 36; refine (before_any ⟨pf, pt, pc, pa⟩ ⟨xf, xt, xc, xa⟩ _).mono ?_; rintro e w3 ⟨rfl, hb3⟩; have k3 : Below wq.heap.size wq w3 := bt kd hb3 (Nat.le_refl _); rw [hbf]))
                      have HN := Lib.hid (hbz.trans ((show Below wq.heap.size wq _ from by first | exact k3 | exact k3.drew).mono hbz.size))
                      clear k3 k0 kd x0 x1 x2 x3 p0 p1 p2 p3 HB hb3
                      go_wp2
                      go_ret
                      exact ⟨ret_int HCE.out.symm, HN.out⟩
          · obtain rfl : bd = true := by rw [HBD.out, h1, h2, h3]; simp
            have HV := Lib.hid (show vldB l = false from allB_no k hlt (by have := HBE.out; revert this; cases elT l k <;> simp))
            rw [HV.out, if_neg (by decide)] at HCE
            clear HBD HBE
            obtain ⟨r0, r1, r2, r3⟩ := HP.out
            go_wp2_with (go_at_call 34; refine (rname_q _ _ _ (by first | exact HZ1.out | exact HZ2.out | exact HZ3.out) (by first | exact h1 | exact h2 | exact h3)).mono ?_; rintro e w' ⟨rfl, rfl⟩)
            go_ret
            exact ⟨ret_int HCE.out.symm, hbz⟩
        · obtain rfl : bd = true := by rw [HBD.out, h1, h2]; simp
          have HV := Lib.hid (show vldB l = false from allB_no k hlt (by have := HBE.out; revert this; cases elT l k <;> simp))
          rw [HV.out, if_neg (by decide)] at HCE
          clear HBD HBE
          obtain ⟨r0, r1, r2, r3⟩ := HP.out
          go_wp2_with (go_at_call 34; refine (rname_q _ _ _ (by first | exact HZ1.out | exact HZ2.out) (by first | exact h1 | exact h2)).mono ?_; rintro e w' ⟨rfl, rfl⟩)
          go_ret
          exact ⟨ret_int HCE.out.symm, hbz⟩
      · obtain rfl : bd = true := by rw [HBD.out, h1]; simp
        have HV := Lib.hid (show vldB l = false from allB_no k hlt (by have := HBE.out; revert this; cases elT l k <;> simp))
        rw [HV.out, if_neg (by decide)] at HCE
        clear HBD HBE
        obtain ⟨r0, r1, r2, r3⟩ := HP.out
        go_wp2_with (go_at_call 34; refine (rname_q _ _ _ (by first | exact HZ1.out) (by first | exact h1)).mono ?_; rintro e w' ⟨rfl, rfl⟩)
        go_ret
        exact ⟨ret_int HCE.out.symm, hbz⟩
    · obtain rfl : k = l.length := by omega
      rw [show vldB l = true from allB_yes HG.out, if_pos rfl] at HCE
      go_wp2
      go_ret
      exact ⟨ret_int HCE.out.symm, hbw⟩
end Go.Proofs.Ytpphiohppgphnaa.Cs

