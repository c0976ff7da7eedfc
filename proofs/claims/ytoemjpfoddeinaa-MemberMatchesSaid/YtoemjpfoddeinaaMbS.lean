/-
  Member: a call; the walk of call.
-/
import Derived.Test.YtoemjpfoddeinaaMbO
import Derived.Test.YtoemjpfoddeinaaMbP
namespace Go.Proofs.Ytoemjpfoddeinaa.Mb
open Go.RowKit Go.Proofs.Ytoemjpfoddeinaa Go.Proofs.Ytoemjpfoddeinaa.Ls Go.Proofs.Ytoemjpfoddeinaa.Kb
open Go.Proofs.Ytoemjpfoddeinaa.Nm hiding ret_bool ret_int

/-- a call -/
structure Opp where
  kd : Int
  nm : ByteArray
  fr : ByteArray
  tt : ByteArray
  ro : Int
  is : Bool
  am : Int
def opc (o : Opp) : List Value := [.int .u8 o.kd, .string o.nm, .string o.fr, .string o.tt, .int .u8 o.ro, .bool o.is, .int .i64 o.am]
theorem opc_len (o : Opp) : (opc o).length = 7 := rfl
structure OkO (o : Opp) : Prop where
  kd : 0 ≤ o.kd ∧ o.kd ≤ 255
  nm : o.nm.size ≤ maxLen
  fr : o.fr.size ≤ maxLen
  tt : o.tt.size ≤ maxLen
  ro : 0 ≤ o.ro ∧ o.ro ≤ 255
  am : i64 o.am
def callF (ms : List Me) (o : Opp) : R :=
  if o.kd = 0 then joinF ms o.nm o.ro o.am else if o.kd = 1 then leaveF ms o.nm else if o.kd = 2 then chgF ms o.nm (fLim o.am) else if o.kd = 3 then chgF ms o.nm (fSus o.is)
  else if o.kd = 4 then chgF ms o.nm (fOpen o.fr o.is o.am) else if o.kd = 5 then chgF ms o.nm (fClose o.fr) else if o.kd = 6 then chgF ms o.nm (fMove o.fr o.tt o.am) else chgF ms o.nm (fUse o.fr o.am)
theorem blk_threeB (w : World) (o p q : Obj) : Below w.heap.size w (((w.alloc o).alloc p).alloc q) := (((Below.refl _ _).alloc (Nat.le_refl _) _).alloc (by simp) _).alloc (by simp <;> omega) _

set_option maxRecDepth 100000 in
set_option maxHeartbeats 8000000 in
theorem call_any (a : Option Addr) (c : Nat) (xs : List P) (o : Opp) (ho : OkO o) (w : World) (hn : xs.length ≤ 1000) (hZ : ∀ x ∈ xs, OkM x.1) (hA : AtM w a xs) :
    Calls Try.prog 26 #[.agg #[.slice a xs.length c], .agg #[.int .u8 o.kd, .string o.nm, .string o.fr, .string o.tt, .int .u8 o.ro, .bool o.is, .int .i64 o.am]] w (RPost (callF (fst xs) o) w) := by
  have HA := Lib.hid hA
  have HO := Lib.hid ho
  have HZ := Lib.hid hZ
  obtain ⟨r, hr⟩ : ∃ r, r = callF (fst xs) o := ⟨_, rfl⟩
  rw [← hr]
  have HR := Lib.hid hr
  obtain ⟨kd, nm, fr, tt, ro, is, am⟩ := o
  dsimp only at *
  have hbo := blk_threeB w (.cells #[.slice a xs.length c] 24) (.cells #[.int .u8 kd, .string nm, .string fr, .string tt, .int .u8 ro, .bool is, .int .i64 am] 48) (.cells #[.slice none 0 0] 24)
  have HX := Lib.hid (blk_three w (.cells #[.slice a xs.length c] 24) (.cells #[.int .u8 kd, .string nm, .string fr, .string tt, .int .u8 ro, .bool is, .int .i64 am] 48) (.cells #[.slice none 0 0] 24))
  clear hr hA ho hZ
  by_cases h0 : kd = 0
  case pos =>
    subst h0
    have HR2 := Lib.hid (show r = joinF (fst xs) nm ro am from HR.out)
    have HC := Lib.hid (fun wx (h : AtM wx a xs) => join_any a c xs nm ro am HO.out.nm HO.out.ro HO.out.am wx hn HZ.out h)
    rw [← HR2.out] at HC
    have x0 := cell_of HX.out.1 0 _ rfl
    have o0 := cell_of HX.out.2.1 0 _ rfl
    have o1 := cell_of HX.out.2.1 1 _ rfl
    have o2 := cell_of HX.out.2.1 2 _ rfl
    have o3 := cell_of HX.out.2.1 3 _ rfl
    have o4 := cell_of HX.out.2.1 4 _ rfl
    have o5 := cell_of HX.out.2.1 5 _ rfl
    have o6 := cell_of HX.out.2.1 6 _ rfl
    go_enter Try.func26, Try.ntmps26
    go_wp2_with fail
    generalize ((w.alloc _).alloc _).alloc _ = wo at hbo HX x0 o0 o1 o2 o3 o4 o5 o6 ⊢
    refine (HC.out _ (HA.out.below hbo)).mono ?_
    rintro e w1 ⟨a', c', ys, rfl, hfst, hO, hb⟩
    have hR := blk_keep HX.out.2.2 hb
    have y0 := cell_of hR 0 _ rfl
    have yf := frozen_of hR 0
    have HP := Lib.hid (rpost_store hfst hO hb hbo hR (by omega))
    have HR1 := Lib.hid (set1 hR (.slice a' ys.length c'))
    clear hfst hO hb hR x0 o0 o1 o2 o3 o4 o5 o6
    go_wp2_with fail
    have r0 := cell_of HR1.out 0 _ rfl
    exact bodyPost_ret (by simp [results, Try.results26, go_sem, r0]) rfl HP.out
  by_cases h1 : kd = 1
  case pos =>
    subst h1
    clear h0
    have HR2 := Lib.hid (show r = leaveF (fst xs) nm from HR.out)
    have HC := Lib.hid (fun wx (h : AtM wx a xs) => leave_any a c xs nm wx hn HZ.out h)
    rw [← HR2.out] at HC
    have x0 := cell_of HX.out.1 0 _ rfl
    have o0 := cell_of HX.out.2.1 0 _ rfl
    have o1 := cell_of HX.out.2.1 1 _ rfl
    have o2 := cell_of HX.out.2.1 2 _ rfl
    have o3 := cell_of HX.out.2.1 3 _ rfl
    have o4 := cell_of HX.out.2.1 4 _ rfl
    have o5 := cell_of HX.out.2.1 5 _ rfl
    have o6 := cell_of HX.out.2.1 6 _ rfl
    go_enter Try.func26, Try.ntmps26
    go_wp2_with fail
    generalize ((w.alloc _).alloc _).alloc _ = wo at hbo HX x0 o0 o1 o2 o3 o4 o5 o6 ⊢
    refine (HC.out _ (HA.out.below hbo)).mono ?_
    rintro e w1 ⟨a', c', ys, rfl, hfst, hO, hb⟩
    have hR := blk_keep HX.out.2.2 hb
    have y0 := cell_of hR 0 _ rfl
    have yf := frozen_of hR 0
    have HP := Lib.hid (rpost_store hfst hO hb hbo hR (by omega))
    have HR1 := Lib.hid (set1 hR (.slice a' ys.length c'))
    clear hfst hO hb hR x0 o0 o1 o2 o3 o4 o5 o6
    go_wp2_with fail
    have r0 := cell_of HR1.out 0 _ rfl
    exact bodyPost_ret (by simp [results, Try.results26, go_sem, r0]) rfl HP.out
  by_cases h2 : kd = 2
  case pos =>
    subst h2
    clear h0 h1
    have HR2 := Lib.hid (show r = chgF (fst xs) nm (fLim am) from HR.out)
    have HC := Lib.hid (fun wx (h : AtM wx a xs) => setlimit_any a c xs nm am wx hn HZ.out h)
    rw [← HR2.out] at HC
    have x0 := cell_of HX.out.1 0 _ rfl
    have o0 := cell_of HX.out.2.1 0 _ rfl
    have o1 := cell_of HX.out.2.1 1 _ rfl
    have o2 := cell_of HX.out.2.1 2 _ rfl
    have o3 := cell_of HX.out.2.1 3 _ rfl
    have o4 := cell_of HX.out.2.1 4 _ rfl
    have o5 := cell_of HX.out.2.1 5 _ rfl
    have o6 := cell_of HX.out.2.1 6 _ rfl
    go_enter Try.func26, Try.ntmps26
    go_wp2_with fail
    generalize ((w.alloc _).alloc _).alloc _ = wo at hbo HX x0 o0 o1 o2 o3 o4 o5 o6 ⊢
    refine (HC.out _ (HA.out.below hbo)).mono ?_
    rintro e w1 ⟨a', c', ys, rfl, hfst, hO, hb⟩
    have hR := blk_keep HX.out.2.2 hb
    have y0 := cell_of hR 0 _ rfl
    have yf := frozen_of hR 0
    have HP := Lib.hid (rpost_store hfst hO hb hbo hR (by omega))
    have HR1 := Lib.hid (set1 hR (.slice a' ys.length c'))
    clear hfst hO hb hR x0 o0 o1 o2 o3 o4 o5 o6
    go_wp2_with fail
    have r0 := cell_of HR1.out 0 _ rfl
    exact bodyPost_ret (by simp [results, Try.results26, go_sem, r0]) rfl HP.out
  by_cases h3 : kd = 3
  case pos =>
    subst h3
    clear h0 h1 h2
    have HR2 := Lib.hid (show r = chgF (fst xs) nm (fSus is) from HR.out)
    have HC := Lib.hid (fun wx (h : AtM wx a xs) => suspend_any a c xs nm is wx hn HZ.out h)
    rw [← HR2.out] at HC
    have x0 := cell_of HX.out.1 0 _ rfl
    have o0 := cell_of HX.out.2.1 0 _ rfl
    have o1 := cell_of HX.out.2.1 1 _ rfl
    have o2 := cell_of HX.out.2.1 2 _ rfl
    have o3 := cell_of HX.out.2.1 3 _ rfl
    have o4 := cell_of HX.out.2.1 4 _ rfl
    have o5 := cell_of HX.out.2.1 5 _ rfl
    have o6 := cell_of HX.out.2.1 6 _ rfl
    go_enter Try.func26, Try.ntmps26
    go_wp2_with fail
    generalize ((w.alloc _).alloc _).alloc _ = wo at hbo HX x0 o0 o1 o2 o3 o4 o5 o6 ⊢
    refine (HC.out _ (HA.out.below hbo)).mono ?_
    rintro e w1 ⟨a', c', ys, rfl, hfst, hO, hb⟩
    have hR := blk_keep HX.out.2.2 hb
    have y0 := cell_of hR 0 _ rfl
    have yf := frozen_of hR 0
    have HP := Lib.hid (rpost_store hfst hO hb hbo hR (by omega))
    have HR1 := Lib.hid (set1 hR (.slice a' ys.length c'))
    clear hfst hO hb hR x0 o0 o1 o2 o3 o4 o5 o6
    go_wp2_with fail
    have r0 := cell_of HR1.out 0 _ rfl
    exact bodyPost_ret (by simp [results, Try.results26, go_sem, r0]) rfl HP.out
  by_cases h4 : kd = 4
  case pos =>
    subst h4
    clear h0 h1 h2 h3
    have HR2 := Lib.hid (show r = chgF (fst xs) nm (fOpen fr is am) from HR.out)
    have HC := Lib.hid (fun wx (h : AtM wx a xs) => open_any a c xs nm fr is am HO.out.fr wx hn HZ.out h)
    rw [← HR2.out] at HC
    have x0 := cell_of HX.out.1 0 _ rfl
    have o0 := cell_of HX.out.2.1 0 _ rfl
    have o1 := cell_of HX.out.2.1 1 _ rfl
    have o2 := cell_of HX.out.2.1 2 _ rfl
    have o3 := cell_of HX.out.2.1 3 _ rfl
    have o4 := cell_of HX.out.2.1 4 _ rfl
    have o5 := cell_of HX.out.2.1 5 _ rfl
    have o6 := cell_of HX.out.2.1 6 _ rfl
    go_enter Try.func26, Try.ntmps26
    go_wp2_with fail
    generalize ((w.alloc _).alloc _).alloc _ = wo at hbo HX x0 o0 o1 o2 o3 o4 o5 o6 ⊢
    refine (HC.out _ (HA.out.below hbo)).mono ?_
    rintro e w1 ⟨a', c', ys, rfl, hfst, hO, hb⟩
    have hR := blk_keep HX.out.2.2 hb
    have y0 := cell_of hR 0 _ rfl
    have yf := frozen_of hR 0
    have HP := Lib.hid (rpost_store hfst hO hb hbo hR (by omega))
    have HR1 := Lib.hid (set1 hR (.slice a' ys.length c'))
    clear hfst hO hb hR x0 o0 o1 o2 o3 o4 o5 o6
    go_wp2_with fail
    have r0 := cell_of HR1.out 0 _ rfl
    exact bodyPost_ret (by simp [results, Try.results26, go_sem, r0]) rfl HP.out
  by_cases h5 : kd = 5
  case pos =>
    subst h5
    clear h0 h1 h2 h3 h4
    have HR2 := Lib.hid (show r = chgF (fst xs) nm (fClose fr) from HR.out)
    have HC := Lib.hid (fun wx (h : AtM wx a xs) => close_any a c xs nm fr wx hn HZ.out h)
    rw [← HR2.out] at HC
    have x0 := cell_of HX.out.1 0 _ rfl
    have o0 := cell_of HX.out.2.1 0 _ rfl
    have o1 := cell_of HX.out.2.1 1 _ rfl
    have o2 := cell_of HX.out.2.1 2 _ rfl
    have o3 := cell_of HX.out.2.1 3 _ rfl
    have o4 := cell_of HX.out.2.1 4 _ rfl
    have o5 := cell_of HX.out.2.1 5 _ rfl
    have o6 := cell_of HX.out.2.1 6 _ rfl
    go_enter Try.func26, Try.ntmps26
    go_wp2_with fail
    generalize ((w.alloc _).alloc _).alloc _ = wo at hbo HX x0 o0 o1 o2 o3 o4 o5 o6 ⊢
    refine (HC.out _ (HA.out.below hbo)).mono ?_
    rintro e w1 ⟨a', c', ys, rfl, hfst, hO, hb⟩
    have hR := blk_keep HX.out.2.2 hb
    have y0 := cell_of hR 0 _ rfl
    have yf := frozen_of hR 0
    have HP := Lib.hid (rpost_store hfst hO hb hbo hR (by omega))
    have HR1 := Lib.hid (set1 hR (.slice a' ys.length c'))
    clear hfst hO hb hR x0 o0 o1 o2 o3 o4 o5 o6
    go_wp2_with fail
    have r0 := cell_of HR1.out 0 _ rfl
    exact bodyPost_ret (by simp [results, Try.results26, go_sem, r0]) rfl HP.out
  by_cases h6 : kd = 6
  case pos =>
    subst h6
    clear h0 h1 h2 h3 h4 h5
    have HR2 := Lib.hid (show r = chgF (fst xs) nm (fMove fr tt am) from HR.out)
    have HC := Lib.hid (fun wx (h : AtM wx a xs) => move_any a c xs nm fr tt am wx hn HZ.out h)
    rw [← HR2.out] at HC
    have x0 := cell_of HX.out.1 0 _ rfl
    have o0 := cell_of HX.out.2.1 0 _ rfl
    have o1 := cell_of HX.out.2.1 1 _ rfl
    have o2 := cell_of HX.out.2.1 2 _ rfl
    have o3 := cell_of HX.out.2.1 3 _ rfl
    have o4 := cell_of HX.out.2.1 4 _ rfl
    have o5 := cell_of HX.out.2.1 5 _ rfl
    have o6 := cell_of HX.out.2.1 6 _ rfl
    go_enter Try.func26, Try.ntmps26
    go_wp2_with fail
    generalize ((w.alloc _).alloc _).alloc _ = wo at hbo HX x0 o0 o1 o2 o3 o4 o5 o6 ⊢
    refine (HC.out _ (HA.out.below hbo)).mono ?_
    rintro e w1 ⟨a', c', ys, rfl, hfst, hO, hb⟩
    have hR := blk_keep HX.out.2.2 hb
    have y0 := cell_of hR 0 _ rfl
    have yf := frozen_of hR 0
    have HP := Lib.hid (rpost_store hfst hO hb hbo hR (by omega))
    have HR1 := Lib.hid (set1 hR (.slice a' ys.length c'))
    clear hfst hO hb hR x0 o0 o1 o2 o3 o4 o5 o6
    go_wp2_with fail
    have r0 := cell_of HR1.out 0 _ rfl
    exact bodyPost_ret (by simp [results, Try.results26, go_sem, r0]) rfl HP.out
  have HR2 := Lib.hid (show r = chgF (fst xs) nm (fUse fr am) by rw [HR.out]; unfold callF; rw [if_neg h0, if_neg h1, if_neg h2, if_neg h3, if_neg h4, if_neg h5, if_neg h6])
  have e0 : (kd == 0) = false := by simpa using h0
  have e1 : (kd == 1) = false := by simpa using h1
  have e2 : (kd == 2) = false := by simpa using h2
  have e3 : (kd == 3) = false := by simpa using h3
  have e4 : (kd == 4) = false := by simpa using h4
  have e5 : (kd == 5) = false := by simpa using h5
  have e6 : (kd == 6) = false := by simpa using h6
  clear h0 h1 h2 h3 h4 h5 h6
  have HC := Lib.hid (fun wx (h : AtM wx a xs) => use_any a c xs nm fr am HO.out.am wx hn HZ.out h)
  rw [← HR2.out] at HC
  have x0 := cell_of HX.out.1 0 _ rfl
  have o0 := cell_of HX.out.2.1 0 _ rfl
  have o1 := cell_of HX.out.2.1 1 _ rfl
  have o2 := cell_of HX.out.2.1 2 _ rfl
  have o3 := cell_of HX.out.2.1 3 _ rfl
  have o4 := cell_of HX.out.2.1 4 _ rfl
  have o5 := cell_of HX.out.2.1 5 _ rfl
  have o6 := cell_of HX.out.2.1 6 _ rfl
  go_enter Try.func26, Try.ntmps26
  go_wp2_with fail
  generalize ((w.alloc _).alloc _).alloc _ = wo at hbo HX x0 o0 o1 o2 o3 o4 o5 o6 ⊢
  refine (HC.out _ (HA.out.below hbo)).mono ?_
  rintro e w1 ⟨a', c', ys, rfl, hfst, hO, hb⟩
  have hR := blk_keep HX.out.2.2 hb
  have y0 := cell_of hR 0 _ rfl
  have yf := frozen_of hR 0
  have HP := Lib.hid (rpost_store hfst hO hb hbo hR (by omega))
  have HR1 := Lib.hid (set1 hR (.slice a' ys.length c'))
  clear hfst hO hb hR x0 o0 o1 o2 o3 o4 o5 o6
  go_wp2_with fail
  have r0 := cell_of HR1.out 0 _ rfl
  exact bodyPost_ret (by simp [results, Try.results26, go_sem, r0]) rfl HP.out
end Go.Proofs.Ytoemjpfoddeinaa.Mb
