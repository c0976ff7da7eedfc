/-
  Member: the walks of SetLimit, Suspend, Open, Close, Use and Move of the program.
-/
import Derived.Test.YtoemjpfoddeinaaMbL
namespace Go.Proofs.Ytoemjpfoddeinaa.Mb
open Go.RowKit Go.Proofs.Ytoemjpfoddeinaa Go.Proofs.Ytoemjpfoddeinaa.Ls Go.Proofs.Ytoemjpfoddeinaa.Kb
open Go.Proofs.Ytoemjpfoddeinaa.Nm hiding ret_bool ret_int

/-- what change has returned is stored and returned -/
theorem rpost_store {r : R} {w wo w1 : World} {a' : Option Addr} {c' RB : Nat} {ys : List P} {v0 : Value} (hfst : fst ys = r.1) (hO : OwnM w1 wo.heap.size a' c' ys) (hb : Below wo.heap.size wo w1) (hbo : Below w.heap.size w wo) (hR : w1.heap[RB]? = some (.cells #[v0] 24 (0, 0))) (hRB : w.heap.size ≤ RB) :
    RPost r w (.returned (.tuple #[.agg #[.slice a' ys.length c'], .int .i64 r.2])) (w1.setCell ⟨RB, 0, none⟩ (.slice a' ys.length c')) :=
  ⟨a', c', ys, rfl, hfst, (hO.lower hbo.size).far (i := 0) hR _, (bt hbo hb (Nat.le_refl _)).setCell (p := ⟨RB, 0, none⟩) hRB _⟩

set_option maxRecDepth 100000 in
set_option maxHeartbeats 4000000 in
theorem setlimit_any (a : Option Addr) (c : Nat) (xs : List P) (t : ByteArray) (lim : Int)  (w : World) (hn : xs.length ≤ 1000) (hZ : ∀ x ∈ xs, OkM x.1) (hA : AtM w a xs) :
    Calls Try.prog 16 #[.agg #[.slice a xs.length c], .string t, .int .i64 lim] w (RPost (chgF (fst xs) t (fLim lim)) w) := by
  have hbo : Below w.heap.size w (((w.alloc (.cells #[.slice a xs.length c] 24)).alloc (.cells #[.int .i64 lim] 3)).alloc (.cells #[.slice none 0 0] 24)) := (((Below.refl _ _).alloc (by simp <;> omega) _).alloc (by simp <;> omega) _).alloc (by simp <;> omega) _
  have B0 := Lib.hid (show (((w.alloc (.cells #[.slice a xs.length c] 24)).alloc (.cells #[.int .i64 lim] 3)).alloc (.cells #[.slice none 0 0] 24)).heap[w.heap.size]? = some (.cells #[.slice a xs.length c] 24 (0, 0)) from blk_past _ _ (blk_past _ _ (by have := blk_new w (.cells #[.slice a xs.length c] 24); simpa using this)))
  have B1 := Lib.hid (show (((w.alloc (.cells #[.slice a xs.length c] 24)).alloc (.cells #[.int .i64 lim] 3)).alloc (.cells #[.slice none 0 0] 24)).heap[w.heap.size + 1]? = some (.cells #[.int .i64 lim] 3 (0, 0)) from blk_past _ _ (by have := blk_new (w.alloc (.cells #[.slice a xs.length c] 24)) (.cells #[.int .i64 lim] 3); simpa using this))
  have B2 := Lib.hid (show (((w.alloc (.cells #[.slice a xs.length c] 24)).alloc (.cells #[.int .i64 lim] 3)).alloc (.cells #[.slice none 0 0] 24)).heap[w.heap.size + 1 + 1]? = some (.cells #[.slice none 0 0] 24 (0, 0)) from by have := blk_new ((w.alloc (.cells #[.slice a xs.length c] 24)).alloc (.cells #[.int .i64 lim] 3)) (.cells #[.slice none 0 0] 24); simpa using this)
  have HA := Lib.hid (hA.below hbo)
  obtain ⟨r, hr⟩ : ∃ r, r = chgF (fst xs) t (fLim lim) := ⟨_, rfl⟩
  rw [← hr]
  have HCH := Lib.hid (show ∀ wo : World, wo = (((w.alloc (.cells #[.slice a xs.length c] 24)).alloc (.cells #[.int .i64 lim] 3)).alloc (.cells #[.slice none 0 0] 24)) → Calls Try.prog 45 #[.agg #[.slice a xs.length c], .string t, .func (.func 46) #[] #[.pointer (some ⟨w.heap.size + 1, 0, none⟩)]] wo (RPost r wo) from fun wo hwo => by
    rw [← hwo] at B0 B1 B2 HA
    rw [hr]
    exact change_any (fLim lim) 46 #[.pointer (some ⟨w.heap.size + 1, 0, none⟩)] a c xs t wo hn hZ HA.out (ok_lim lim) (fun v w => enter_of Try.func46 (by kernel_rfl) rfl _ w) (fun g cap i ys wx hi hl hk hv hO hb => do_lim lim _ wo (cell_of B1.out 0 _ rfl) g cap i ys wx hi hO hb))
  clear hr hA HA hZ
  go_enter Try.func16, Try.ntmps16
  go_wp2_with fail
  refine (HCH.out _ rfl).mono ?_
  clear HCH
  generalize (((w.alloc (.cells #[.slice a xs.length c] 24)).alloc (.cells #[.int .i64 lim] 3)).alloc (.cells #[.slice none 0 0] 24)) = wo at hbo B0 B1 B2 ⊢
  rintro e w1 ⟨a', c', ys, rfl, hfst, hO, hb⟩
  have hR := blk_keep B2.out hb
  have y0 := cell_of hR 0 _ rfl
  have yf := frozen_of hR 0
  have HP := Lib.hid (rpost_store hfst hO hb hbo hR (by omega))
  have HR1 := Lib.hid (set1 hR (.slice a' ys.length c'))
  clear hfst hO hb hR
  go_wp2_with fail
  have r0 := cell_of HR1.out 0 _ rfl
  exact bodyPost_ret (by simp [results, Try.results16, go_sem, r0]) rfl HP.out

set_option maxRecDepth 100000 in
set_option maxHeartbeats 4000000 in
theorem suspend_any (a : Option Addr) (c : Nat) (xs : List P) (t : ByteArray) (is : Bool)  (w : World) (hn : xs.length ≤ 1000) (hZ : ∀ x ∈ xs, OkM x.1) (hA : AtM w a xs) :
    Calls Try.prog 17 #[.agg #[.slice a xs.length c], .string t, .bool is] w (RPost (chgF (fst xs) t (fSus is)) w) := by
  have hbo : Below w.heap.size w (((w.alloc (.cells #[.slice a xs.length c] 24)).alloc (.cells #[.bool is] 4)).alloc (.cells #[.slice none 0 0] 24)) := (((Below.refl _ _).alloc (by simp <;> omega) _).alloc (by simp <;> omega) _).alloc (by simp <;> omega) _
  have B0 := Lib.hid (show (((w.alloc (.cells #[.slice a xs.length c] 24)).alloc (.cells #[.bool is] 4)).alloc (.cells #[.slice none 0 0] 24)).heap[w.heap.size]? = some (.cells #[.slice a xs.length c] 24 (0, 0)) from blk_past _ _ (blk_past _ _ (by have := blk_new w (.cells #[.slice a xs.length c] 24); simpa using this)))
  have B1 := Lib.hid (show (((w.alloc (.cells #[.slice a xs.length c] 24)).alloc (.cells #[.bool is] 4)).alloc (.cells #[.slice none 0 0] 24)).heap[w.heap.size + 1]? = some (.cells #[.bool is] 4 (0, 0)) from blk_past _ _ (by have := blk_new (w.alloc (.cells #[.slice a xs.length c] 24)) (.cells #[.bool is] 4); simpa using this))
  have B2 := Lib.hid (show (((w.alloc (.cells #[.slice a xs.length c] 24)).alloc (.cells #[.bool is] 4)).alloc (.cells #[.slice none 0 0] 24)).heap[w.heap.size + 1 + 1]? = some (.cells #[.slice none 0 0] 24 (0, 0)) from by have := blk_new ((w.alloc (.cells #[.slice a xs.length c] 24)).alloc (.cells #[.bool is] 4)) (.cells #[.slice none 0 0] 24); simpa using this)
  have HA := Lib.hid (hA.below hbo)
  obtain ⟨r, hr⟩ : ∃ r, r = chgF (fst xs) t (fSus is) := ⟨_, rfl⟩
  rw [← hr]
  have HCH := Lib.hid (show ∀ wo : World, wo = (((w.alloc (.cells #[.slice a xs.length c] 24)).alloc (.cells #[.bool is] 4)).alloc (.cells #[.slice none 0 0] 24)) → Calls Try.prog 45 #[.agg #[.slice a xs.length c], .string t, .func (.func 48) #[] #[.pointer (some ⟨w.heap.size + 1, 0, none⟩)]] wo (RPost r wo) from fun wo hwo => by
    rw [← hwo] at B0 B1 B2 HA
    rw [hr]
    exact change_any (fSus is) 48 #[.pointer (some ⟨w.heap.size + 1, 0, none⟩)] a c xs t wo hn hZ HA.out (ok_sus is) (fun v w => enter_of Try.func48 (by kernel_rfl) rfl _ w) (fun g cap i ys wx hi hl hk hv hO hb => do_sus is _ wo (cell_of B1.out 0 _ rfl) g cap i ys wx hi hO hb))
  clear hr hA HA hZ
  go_enter Try.func17, Try.ntmps17
  go_wp2_with fail
  refine (HCH.out _ rfl).mono ?_
  clear HCH
  generalize (((w.alloc (.cells #[.slice a xs.length c] 24)).alloc (.cells #[.bool is] 4)).alloc (.cells #[.slice none 0 0] 24)) = wo at hbo B0 B1 B2 ⊢
  rintro e w1 ⟨a', c', ys, rfl, hfst, hO, hb⟩
  have hR := blk_keep B2.out hb
  have y0 := cell_of hR 0 _ rfl
  have yf := frozen_of hR 0
  have HP := Lib.hid (rpost_store hfst hO hb hbo hR (by omega))
  have HR1 := Lib.hid (set1 hR (.slice a' ys.length c'))
  clear hfst hO hb hR
  go_wp2_with fail
  have r0 := cell_of HR1.out 0 _ rfl
  exact bodyPost_ret (by simp [results, Try.results17, go_sem, r0]) rfl HP.out

set_option maxRecDepth 100000 in
set_option maxHeartbeats 4000000 in
theorem open_any (a : Option Addr) (c : Nat) (xs : List P) (t : ByteArray) (t2 : ByteArray) (cl : Bool) (lim : Int) (ht2 : t2.size ≤ maxLen) (w : World) (hn : xs.length ≤ 1000) (hZ : ∀ x ∈ xs, OkM x.1) (hA : AtM w a xs) :
    Calls Try.prog 18 #[.agg #[.slice a xs.length c], .string t, .string t2, .bool cl, .int .i64 lim] w (RPost (chgF (fst xs) t (fOpen t2 cl lim)) w) := by
  have hbo : Below w.heap.size w (((((w.alloc (.cells #[.slice a xs.length c] 24)).alloc (.cells #[.string t2] 9)).alloc (.cells #[.bool cl] 4)).alloc (.cells #[.int .i64 lim] 3)).alloc (.cells #[.slice none 0 0] 24)) := (((((Below.refl _ _).alloc (by simp <;> omega) _).alloc (by simp <;> omega) _).alloc (by simp <;> omega) _).alloc (by simp <;> omega) _).alloc (by simp <;> omega) _
  have B0 := Lib.hid (show (((((w.alloc (.cells #[.slice a xs.length c] 24)).alloc (.cells #[.string t2] 9)).alloc (.cells #[.bool cl] 4)).alloc (.cells #[.int .i64 lim] 3)).alloc (.cells #[.slice none 0 0] 24)).heap[w.heap.size]? = some (.cells #[.slice a xs.length c] 24 (0, 0)) from blk_past _ _ (blk_past _ _ (blk_past _ _ (blk_past _ _ (by have := blk_new w (.cells #[.slice a xs.length c] 24); simpa using this)))))
  have B1 := Lib.hid (show (((((w.alloc (.cells #[.slice a xs.length c] 24)).alloc (.cells #[.string t2] 9)).alloc (.cells #[.bool cl] 4)).alloc (.cells #[.int .i64 lim] 3)).alloc (.cells #[.slice none 0 0] 24)).heap[w.heap.size + 1]? = some (.cells #[.string t2] 9 (0, 0)) from blk_past _ _ (blk_past _ _ (blk_past _ _ (by have := blk_new (w.alloc (.cells #[.slice a xs.length c] 24)) (.cells #[.string t2] 9); simpa using this))))
  have B2 := Lib.hid (show (((((w.alloc (.cells #[.slice a xs.length c] 24)).alloc (.cells #[.string t2] 9)).alloc (.cells #[.bool cl] 4)).alloc (.cells #[.int .i64 lim] 3)).alloc (.cells #[.slice none 0 0] 24)).heap[w.heap.size + 1 + 1]? = some (.cells #[.bool cl] 4 (0, 0)) from blk_past _ _ (blk_past _ _ (by have := blk_new ((w.alloc (.cells #[.slice a xs.length c] 24)).alloc (.cells #[.string t2] 9)) (.cells #[.bool cl] 4); simpa using this)))
  have B3 := Lib.hid (show (((((w.alloc (.cells #[.slice a xs.length c] 24)).alloc (.cells #[.string t2] 9)).alloc (.cells #[.bool cl] 4)).alloc (.cells #[.int .i64 lim] 3)).alloc (.cells #[.slice none 0 0] 24)).heap[w.heap.size + 1 + 1 + 1]? = some (.cells #[.int .i64 lim] 3 (0, 0)) from blk_past _ _ (by have := blk_new (((w.alloc (.cells #[.slice a xs.length c] 24)).alloc (.cells #[.string t2] 9)).alloc (.cells #[.bool cl] 4)) (.cells #[.int .i64 lim] 3); simpa using this))
  have B4 := Lib.hid (show (((((w.alloc (.cells #[.slice a xs.length c] 24)).alloc (.cells #[.string t2] 9)).alloc (.cells #[.bool cl] 4)).alloc (.cells #[.int .i64 lim] 3)).alloc (.cells #[.slice none 0 0] 24)).heap[w.heap.size + 1 + 1 + 1 + 1]? = some (.cells #[.slice none 0 0] 24 (0, 0)) from by have := blk_new ((((w.alloc (.cells #[.slice a xs.length c] 24)).alloc (.cells #[.string t2] 9)).alloc (.cells #[.bool cl] 4)).alloc (.cells #[.int .i64 lim] 3)) (.cells #[.slice none 0 0] 24); simpa using this)
  have HA := Lib.hid (hA.below hbo)
  obtain ⟨r, hr⟩ : ∃ r, r = chgF (fst xs) t (fOpen t2 cl lim) := ⟨_, rfl⟩
  rw [← hr]
  have HCH := Lib.hid (show ∀ wo : World, wo = (((((w.alloc (.cells #[.slice a xs.length c] 24)).alloc (.cells #[.string t2] 9)).alloc (.cells #[.bool cl] 4)).alloc (.cells #[.int .i64 lim] 3)).alloc (.cells #[.slice none 0 0] 24)) → Calls Try.prog 45 #[.agg #[.slice a xs.length c], .string t, .func (.func 49) #[] #[.pointer (some ⟨w.heap.size + 1, 0, none⟩), .pointer (some ⟨w.heap.size + 1 + 1, 0, none⟩), .pointer (some ⟨w.heap.size + 1 + 1 + 1, 0, none⟩)]] wo (RPost r wo) from fun wo hwo => by
    rw [← hwo] at B0 B1 B2 B3 B4 HA
    rw [hr]
    exact change_any (fOpen t2 cl lim) 49 #[.pointer (some ⟨w.heap.size + 1, 0, none⟩), .pointer (some ⟨w.heap.size + 1 + 1, 0, none⟩), .pointer (some ⟨w.heap.size + 1 + 1 + 1, 0, none⟩)] a c xs t wo hn hZ HA.out (ok_open t2 cl lim ht2) (fun v w => enter_of Try.func49 (by kernel_rfl) rfl _ w) (fun g cap i ys wx hi hl hk hv hO hb => do_open t2 cl lim _ _ _ wo (cell_of B1.out 0 _ rfl) (cell_of B2.out 0 _ rfl) (cell_of B3.out 0 _ rfl) ht2 g cap i ys wx hi hk hv hO hb))
  clear hr hA HA hZ
  go_enter Try.func18, Try.ntmps18
  go_wp2_with fail
  refine (HCH.out _ rfl).mono ?_
  clear HCH
  generalize (((((w.alloc (.cells #[.slice a xs.length c] 24)).alloc (.cells #[.string t2] 9)).alloc (.cells #[.bool cl] 4)).alloc (.cells #[.int .i64 lim] 3)).alloc (.cells #[.slice none 0 0] 24)) = wo at hbo B0 B1 B2 B3 B4 ⊢
  rintro e w1 ⟨a', c', ys, rfl, hfst, hO, hb⟩
  have hR := blk_keep B4.out hb
  have y0 := cell_of hR 0 _ rfl
  have yf := frozen_of hR 0
  have HP := Lib.hid (rpost_store hfst hO hb hbo hR (by omega))
  have HR1 := Lib.hid (set1 hR (.slice a' ys.length c'))
  clear hfst hO hb hR
  go_wp2_with fail
  have r0 := cell_of HR1.out 0 _ rfl
  exact bodyPost_ret (by simp [results, Try.results18, go_sem, r0]) rfl HP.out

set_option maxRecDepth 100000 in
set_option maxHeartbeats 4000000 in
theorem close_any (a : Option Addr) (c : Nat) (xs : List P) (t : ByteArray) (t2 : ByteArray)  (w : World) (hn : xs.length ≤ 1000) (hZ : ∀ x ∈ xs, OkM x.1) (hA : AtM w a xs) :
    Calls Try.prog 20 #[.agg #[.slice a xs.length c], .string t, .string t2] w (RPost (chgF (fst xs) t (fClose t2)) w) := by
  have hbo : Below w.heap.size w (((w.alloc (.cells #[.slice a xs.length c] 24)).alloc (.cells #[.string t2] 9)).alloc (.cells #[.slice none 0 0] 24)) := (((Below.refl _ _).alloc (by simp <;> omega) _).alloc (by simp <;> omega) _).alloc (by simp <;> omega) _
  have B0 := Lib.hid (show (((w.alloc (.cells #[.slice a xs.length c] 24)).alloc (.cells #[.string t2] 9)).alloc (.cells #[.slice none 0 0] 24)).heap[w.heap.size]? = some (.cells #[.slice a xs.length c] 24 (0, 0)) from blk_past _ _ (blk_past _ _ (by have := blk_new w (.cells #[.slice a xs.length c] 24); simpa using this)))
  have B1 := Lib.hid (show (((w.alloc (.cells #[.slice a xs.length c] 24)).alloc (.cells #[.string t2] 9)).alloc (.cells #[.slice none 0 0] 24)).heap[w.heap.size + 1]? = some (.cells #[.string t2] 9 (0, 0)) from blk_past _ _ (by have := blk_new (w.alloc (.cells #[.slice a xs.length c] 24)) (.cells #[.string t2] 9); simpa using this))
  have B2 := Lib.hid (show (((w.alloc (.cells #[.slice a xs.length c] 24)).alloc (.cells #[.string t2] 9)).alloc (.cells #[.slice none 0 0] 24)).heap[w.heap.size + 1 + 1]? = some (.cells #[.slice none 0 0] 24 (0, 0)) from by have := blk_new ((w.alloc (.cells #[.slice a xs.length c] 24)).alloc (.cells #[.string t2] 9)) (.cells #[.slice none 0 0] 24); simpa using this)
  have HA := Lib.hid (hA.below hbo)
  obtain ⟨r, hr⟩ : ∃ r, r = chgF (fst xs) t (fClose t2) := ⟨_, rfl⟩
  rw [← hr]
  have HCH := Lib.hid (show ∀ wo : World, wo = (((w.alloc (.cells #[.slice a xs.length c] 24)).alloc (.cells #[.string t2] 9)).alloc (.cells #[.slice none 0 0] 24)) → Calls Try.prog 45 #[.agg #[.slice a xs.length c], .string t, .func (.func 57) #[] #[.pointer (some ⟨w.heap.size + 1, 0, none⟩)]] wo (RPost r wo) from fun wo hwo => by
    rw [← hwo] at B0 B1 B2 HA
    rw [hr]
    exact change_any (fClose t2) 57 #[.pointer (some ⟨w.heap.size + 1, 0, none⟩)] a c xs t wo hn hZ HA.out (ok_close t2) (fun v w => enter_of Try.func57 (by kernel_rfl) rfl _ w) (fun g cap i ys wx hi hl hk hv hO hb => do_close t2 _ wo (cell_of B1.out 0 _ rfl) g cap i ys wx hi hk hv hO hb))
  clear hr hA HA hZ
  go_enter Try.func20, Try.ntmps20
  go_wp2_with fail
  refine (HCH.out _ rfl).mono ?_
  clear HCH
  generalize (((w.alloc (.cells #[.slice a xs.length c] 24)).alloc (.cells #[.string t2] 9)).alloc (.cells #[.slice none 0 0] 24)) = wo at hbo B0 B1 B2 ⊢
  rintro e w1 ⟨a', c', ys, rfl, hfst, hO, hb⟩
  have hR := blk_keep B2.out hb
  have y0 := cell_of hR 0 _ rfl
  have yf := frozen_of hR 0
  have HP := Lib.hid (rpost_store hfst hO hb hbo hR (by omega))
  have HR1 := Lib.hid (set1 hR (.slice a' ys.length c'))
  clear hfst hO hb hR
  go_wp2_with fail
  have r0 := cell_of HR1.out 0 _ rfl
  exact bodyPost_ret (by simp [results, Try.results20, go_sem, r0]) rfl HP.out

set_option maxRecDepth 100000 in
set_option maxHeartbeats 4000000 in
theorem use_any (a : Option Addr) (c : Nat) (xs : List P) (t : ByteArray) (t2 : ByteArray) (n : Int) (hn2 : i64 n) (w : World) (hn : xs.length ≤ 1000) (hZ : ∀ x ∈ xs, OkM x.1) (hA : AtM w a xs) :
    Calls Try.prog 19 #[.agg #[.slice a xs.length c], .string t, .string t2, .int .i64 n] w (RPost (chgF (fst xs) t (fUse t2 n)) w) := by
  have hbo : Below w.heap.size w ((((w.alloc (.cells #[.slice a xs.length c] 24)).alloc (.cells #[.string t2] 9)).alloc (.cells #[.int .i64 n] 3)).alloc (.cells #[.slice none 0 0] 24)) := ((((Below.refl _ _).alloc (by simp <;> omega) _).alloc (by simp <;> omega) _).alloc (by simp <;> omega) _).alloc (by simp <;> omega) _
  have B0 := Lib.hid (show ((((w.alloc (.cells #[.slice a xs.length c] 24)).alloc (.cells #[.string t2] 9)).alloc (.cells #[.int .i64 n] 3)).alloc (.cells #[.slice none 0 0] 24)).heap[w.heap.size]? = some (.cells #[.slice a xs.length c] 24 (0, 0)) from blk_past _ _ (blk_past _ _ (blk_past _ _ (by have := blk_new w (.cells #[.slice a xs.length c] 24); simpa using this))))
  have B1 := Lib.hid (show ((((w.alloc (.cells #[.slice a xs.length c] 24)).alloc (.cells #[.string t2] 9)).alloc (.cells #[.int .i64 n] 3)).alloc (.cells #[.slice none 0 0] 24)).heap[w.heap.size + 1]? = some (.cells #[.string t2] 9 (0, 0)) from blk_past _ _ (blk_past _ _ (by have := blk_new (w.alloc (.cells #[.slice a xs.length c] 24)) (.cells #[.string t2] 9); simpa using this)))
  have B2 := Lib.hid (show ((((w.alloc (.cells #[.slice a xs.length c] 24)).alloc (.cells #[.string t2] 9)).alloc (.cells #[.int .i64 n] 3)).alloc (.cells #[.slice none 0 0] 24)).heap[w.heap.size + 1 + 1]? = some (.cells #[.int .i64 n] 3 (0, 0)) from blk_past _ _ (by have := blk_new ((w.alloc (.cells #[.slice a xs.length c] 24)).alloc (.cells #[.string t2] 9)) (.cells #[.int .i64 n] 3); simpa using this))
  have B3 := Lib.hid (show ((((w.alloc (.cells #[.slice a xs.length c] 24)).alloc (.cells #[.string t2] 9)).alloc (.cells #[.int .i64 n] 3)).alloc (.cells #[.slice none 0 0] 24)).heap[w.heap.size + 1 + 1 + 1]? = some (.cells #[.slice none 0 0] 24 (0, 0)) from by have := blk_new (((w.alloc (.cells #[.slice a xs.length c] 24)).alloc (.cells #[.string t2] 9)).alloc (.cells #[.int .i64 n] 3)) (.cells #[.slice none 0 0] 24); simpa using this)
  have HA := Lib.hid (hA.below hbo)
  obtain ⟨r, hr⟩ : ∃ r, r = chgF (fst xs) t (fUse t2 n) := ⟨_, rfl⟩
  rw [← hr]
  have HCH := Lib.hid (show ∀ wo : World, wo = ((((w.alloc (.cells #[.slice a xs.length c] 24)).alloc (.cells #[.string t2] 9)).alloc (.cells #[.int .i64 n] 3)).alloc (.cells #[.slice none 0 0] 24)) → Calls Try.prog 45 #[.agg #[.slice a xs.length c], .string t, .func (.func 54) #[] #[.pointer (some ⟨w.heap.size + 1, 0, none⟩), .pointer (some ⟨w.heap.size + 1 + 1, 0, none⟩)]] wo (RPost r wo) from fun wo hwo => by
    rw [← hwo] at B0 B1 B2 B3 HA
    rw [hr]
    exact change_any (fUse t2 n) 54 #[.pointer (some ⟨w.heap.size + 1, 0, none⟩), .pointer (some ⟨w.heap.size + 1 + 1, 0, none⟩)] a c xs t wo hn hZ HA.out (ok_use t2 n) (fun v w => enter_of Try.func54 (by kernel_rfl) rfl _ w) (fun g cap i ys wx hi hl hk hv hO hb => do_use t2 n _ _ wo (cell_of B1.out 0 _ rfl) (cell_of B2.out 0 _ rfl) hn2 g cap i ys wx hi hk hv hO hb))
  clear hr hA HA hZ
  go_enter Try.func19, Try.ntmps19
  go_wp2_with fail
  refine (HCH.out _ rfl).mono ?_
  clear HCH
  generalize ((((w.alloc (.cells #[.slice a xs.length c] 24)).alloc (.cells #[.string t2] 9)).alloc (.cells #[.int .i64 n] 3)).alloc (.cells #[.slice none 0 0] 24)) = wo at hbo B0 B1 B2 B3 ⊢
  rintro e w1 ⟨a', c', ys, rfl, hfst, hO, hb⟩
  have hR := blk_keep B3.out hb
  have y0 := cell_of hR 0 _ rfl
  have yf := frozen_of hR 0
  have HP := Lib.hid (rpost_store hfst hO hb hbo hR (by omega))
  have HR1 := Lib.hid (set1 hR (.slice a' ys.length c'))
  clear hfst hO hb hR
  go_wp2_with fail
  have r0 := cell_of HR1.out 0 _ rfl
  exact bodyPost_ret (by simp [results, Try.results19, go_sem, r0]) rfl HP.out

set_option maxRecDepth 100000 in
set_option maxHeartbeats 4000000 in
theorem move_any (a : Option Addr) (c : Nat) (xs : List P) (t : ByteArray) (fr : ByteArray) (tt : ByteArray) (n : Int)  (w : World) (hn : xs.length ≤ 1000) (hZ : ∀ x ∈ xs, OkM x.1) (hA : AtM w a xs) :
    Calls Try.prog 21 #[.agg #[.slice a xs.length c], .string t, .string fr, .string tt, .int .i64 n] w (RPost (chgF (fst xs) t (fMove fr tt n)) w) := by
  have hbo : Below w.heap.size w (((((w.alloc (.cells #[.slice a xs.length c] 24)).alloc (.cells #[.string fr] 9)).alloc (.cells #[.string tt] 9)).alloc (.cells #[.int .i64 n] 3)).alloc (.cells #[.slice none 0 0] 24)) := (((((Below.refl _ _).alloc (by simp <;> omega) _).alloc (by simp <;> omega) _).alloc (by simp <;> omega) _).alloc (by simp <;> omega) _).alloc (by simp <;> omega) _
  have B0 := Lib.hid (show (((((w.alloc (.cells #[.slice a xs.length c] 24)).alloc (.cells #[.string fr] 9)).alloc (.cells #[.string tt] 9)).alloc (.cells #[.int .i64 n] 3)).alloc (.cells #[.slice none 0 0] 24)).heap[w.heap.size]? = some (.cells #[.slice a xs.length c] 24 (0, 0)) from blk_past _ _ (blk_past _ _ (blk_past _ _ (blk_past _ _ (by have := blk_new w (.cells #[.slice a xs.length c] 24); simpa using this)))))
  have B1 := Lib.hid (show (((((w.alloc (.cells #[.slice a xs.length c] 24)).alloc (.cells #[.string fr] 9)).alloc (.cells #[.string tt] 9)).alloc (.cells #[.int .i64 n] 3)).alloc (.cells #[.slice none 0 0] 24)).heap[w.heap.size + 1]? = some (.cells #[.string fr] 9 (0, 0)) from blk_past _ _ (blk_past _ _ (blk_past _ _ (by have := blk_new (w.alloc (.cells #[.slice a xs.length c] 24)) (.cells #[.string fr] 9); simpa using this))))
  have B2 := Lib.hid (show (((((w.alloc (.cells #[.slice a xs.length c] 24)).alloc (.cells #[.string fr] 9)).alloc (.cells #[.string tt] 9)).alloc (.cells #[.int .i64 n] 3)).alloc (.cells #[.slice none 0 0] 24)).heap[w.heap.size + 1 + 1]? = some (.cells #[.string tt] 9 (0, 0)) from blk_past _ _ (blk_past _ _ (by have := blk_new ((w.alloc (.cells #[.slice a xs.length c] 24)).alloc (.cells #[.string fr] 9)) (.cells #[.string tt] 9); simpa using this)))
  have B3 := Lib.hid (show (((((w.alloc (.cells #[.slice a xs.length c] 24)).alloc (.cells #[.string fr] 9)).alloc (.cells #[.string tt] 9)).alloc (.cells #[.int .i64 n] 3)).alloc (.cells #[.slice none 0 0] 24)).heap[w.heap.size + 1 + 1 + 1]? = some (.cells #[.int .i64 n] 3 (0, 0)) from blk_past _ _ (by have := blk_new (((w.alloc (.cells #[.slice a xs.length c] 24)).alloc (.cells #[.string fr] 9)).alloc (.cells #[.string tt] 9)) (.cells #[.int .i64 n] 3); simpa using this))
  have B4 := Lib.hid (show (((((w.alloc (.cells #[.slice a xs.length c] 24)).alloc (.cells #[.string fr] 9)).alloc (.cells #[.string tt] 9)).alloc (.cells #[.int .i64 n] 3)).alloc (.cells #[.slice none 0 0] 24)).heap[w.heap.size + 1 + 1 + 1 + 1]? = some (.cells #[.slice none 0 0] 24 (0, 0)) from by have := blk_new ((((w.alloc (.cells #[.slice a xs.length c] 24)).alloc (.cells #[.string fr] 9)).alloc (.cells #[.string tt] 9)).alloc (.cells #[.int .i64 n] 3)) (.cells #[.slice none 0 0] 24); simpa using this)
  have HA := Lib.hid (hA.below hbo)
  obtain ⟨r, hr⟩ : ∃ r, r = chgF (fst xs) t (fMove fr tt n) := ⟨_, rfl⟩
  rw [← hr]
  have HCH := Lib.hid (show ∀ wo : World, wo = (((((w.alloc (.cells #[.slice a xs.length c] 24)).alloc (.cells #[.string fr] 9)).alloc (.cells #[.string tt] 9)).alloc (.cells #[.int .i64 n] 3)).alloc (.cells #[.slice none 0 0] 24)) → Calls Try.prog 45 #[.agg #[.slice a xs.length c], .string t, .func (.func 59) #[] #[.pointer (some ⟨w.heap.size + 1, 0, none⟩), .pointer (some ⟨w.heap.size + 1 + 1, 0, none⟩), .pointer (some ⟨w.heap.size + 1 + 1 + 1, 0, none⟩)]] wo (RPost r wo) from fun wo hwo => by
    rw [← hwo] at B0 B1 B2 B3 B4 HA
    rw [hr]
    exact change_any (fMove fr tt n) 59 #[.pointer (some ⟨w.heap.size + 1, 0, none⟩), .pointer (some ⟨w.heap.size + 1 + 1, 0, none⟩), .pointer (some ⟨w.heap.size + 1 + 1 + 1, 0, none⟩)] a c xs t wo hn hZ HA.out (ok_move fr tt n) (fun v w => enter_of Try.func59 (by kernel_rfl) rfl _ w) (fun g cap i ys wx hi hl hk hv hO hb => do_move fr tt n _ _ _ wo (cell_of B1.out 0 _ rfl) (cell_of B2.out 0 _ rfl) (cell_of B3.out 0 _ rfl) g cap i ys wx hi hv hO hb))
  clear hr hA HA hZ
  go_enter Try.func21, Try.ntmps21
  go_wp2_with fail
  refine (HCH.out _ rfl).mono ?_
  clear HCH
  generalize (((((w.alloc (.cells #[.slice a xs.length c] 24)).alloc (.cells #[.string fr] 9)).alloc (.cells #[.string tt] 9)).alloc (.cells #[.int .i64 n] 3)).alloc (.cells #[.slice none 0 0] 24)) = wo at hbo B0 B1 B2 B3 B4 ⊢
  rintro e w1 ⟨a', c', ys, rfl, hfst, hO, hb⟩
  have hR := blk_keep B4.out hb
  have y0 := cell_of hR 0 _ rfl
  have yf := frozen_of hR 0
  have HP := Lib.hid (rpost_store hfst hO hb hbo hR (by omega))
  have HR1 := Lib.hid (set1 hR (.slice a' ys.length c'))
  clear hfst hO hb hR
  go_wp2_with fail
  have r0 := cell_of HR1.out 0 _ rfl
  exact bodyPost_ret (by simp [results, Try.results21, go_sem, r0]) rfl HP.out

end Go.Proofs.Ytoemjpfoddeinaa.Mb
