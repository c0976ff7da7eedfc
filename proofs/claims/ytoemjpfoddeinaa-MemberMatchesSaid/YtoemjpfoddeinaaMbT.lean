/-
  Member: states by their lists; the calls in these terms.
-/
import Derived.Test.YtoemjpfoddeinaaMbQ
import Derived.Test.YtoemjpfoddeinaaMbR
import Derived.Test.YtoemjpfoddeinaaMbS
namespace Go.Proofs.Ytoemjpfoddeinaa.Mb
open Go.RowKit Go.Proofs.Ytoemjpfoddeinaa Go.Proofs.Ytoemjpfoddeinaa.Ls Go.Proofs.Ytoemjpfoddeinaa.Kb
open Go.Proofs.Ytoemjpfoddeinaa.Nm hiding ret_bool ret_int

/-- a state that is read; a state in memory of its own -/
def St (w : World) (a : Option Addr) (ms : List Me) : Prop := ∃ xs, fst xs = ms ∧ AtM w a xs
def StO (w : World) (B : Nat) (a : Option Addr) (c : Nat) (ms : List Me) : Prop := ∃ xs, fst xs = ms ∧ OwnM w B a c xs
def OkMs (ms : List Me) : Prop := ∀ m ∈ ms, OkM m
theorem St.below {w w' : World} {a : Option Addr} {ms : List Me} (h : St w a ms) (hb : Below w.heap.size w w') : St w' a ms := by
  obtain ⟨xs, h1, h2⟩ := h
  exact ⟨xs, h1, h2.below hb⟩
theorem StO.below {w w' : World} {B c : Nat} {a : Option Addr} {ms : List Me} (h : StO w B a c ms) (hb : Below w.heap.size w w') : StO w' B a c ms := by
  obtain ⟨xs, h1, h2⟩ := h
  exact ⟨xs, h1, h2.below hb⟩
theorem StO.st {w : World} {B c : Nat} {a : Option Addr} {ms : List Me} (h : StO w B a c ms) : St w a ms := by
  obtain ⟨xs, h1, h2⟩ := h
  exact ⟨xs, h1, h2.at⟩
theorem StO.lower {w : World} {B B' c : Nat} {a : Option Addr} {ms : List Me} (h : StO w B a c ms) (hB : B' ≤ B) : StO w B' a c ms := by
  obtain ⟨xs, h1, h2⟩ := h
  exact ⟨xs, h1, h2.lower hB⟩
theorem StO.far {w : World} {B b i c : Nat} {a : Option Addr} {ms : List Me} {cs : Array Value} (h : StO w B a c ms) (h' : w.heap[b]? = some (.cells cs 24 (0, 0))) (v : Value) : StO (w.setCell ⟨b, i, none⟩ v) B a c ms := by
  obtain ⟨xs, h1, h2⟩ := h
  exact ⟨xs, h1, h2.far h' v⟩
theorem st_nil (w : World) : St w none [] := ⟨[], rfl, AtM.nil _ _⟩
theorem sto_nil (w : World) (B : Nat) : StO w B none 0 [] := ⟨[], rfl, OwnM.nil _ _⟩
theorem okms_xs {xs : List P} (h : OkMs (fst xs)) : ∀ x ∈ xs, OkM x.1 := fun x hx => h _ (List.mem_map.2 ⟨x, hx, rfl⟩)
/-- Go values, decided -/
def i64B (n : Int) : Bool := decide (-9223372036854775808 ≤ n) && decide (n ≤ 9223372036854775807)
def okAB (a : Ac) : Bool := decide (a.nm.size ≤ maxLen) && i64B a.lim && i64B a.us
def okMB (m : Me) : Bool := decide (m.nm.size ≤ maxLen) && decide (0 ≤ m.ro) && decide (m.ro ≤ 255) && i64B m.lim && decide (m.ac.length ≤ 1000) && m.ac.all okAB
theorem i64_dec {n : Int} (h : i64B n = true) : i64 n := by
  unfold i64B at h
  simp only [Bool.and_eq_true, decide_eq_true_eq] at h
  exact h
theorem okM_dec {m : Me} (h : okMB m = true) : OkM m := by
  unfold okMB at h
  simp only [Bool.and_eq_true, decide_eq_true_eq, List.all_eq_true] at h
  obtain ⟨⟨⟨⟨⟨h1, h2⟩, h3⟩, h4⟩, h5⟩, h6⟩ := h
  refine ⟨h1, ⟨h2, h3⟩, i64_dec h4, h5, fun a ha => ?_⟩
  have h7 := h6 a ha
  unfold okAB at h7
  simp only [Bool.and_eq_true, decide_eq_true_eq] at h7
  exact ⟨h7.1.1, i64_dec h7.1.2, i64_dec h7.2⟩
theorem okMs_dec {ms : List Me} (h : ms.all okMB = true) : OkMs ms := fun m hm => okM_dec (List.all_eq_true.1 h m hm)

/-- a state and an error are returned -/
def SP (ms : List Me) (n : Nat) (er : Int) (w : World) : Ending → World → Prop := fun e w' => ∃ a' c', e = .returned (.tuple #[.agg #[.slice a' n c'], .int .i64 er]) ∧ StO w' w.heap.size a' c' ms ∧ Below w.heap.size w w'
theorem to_sp {r : R} {ms : List Me} {n : Nat} {er : Int} {w w' : World} {e : Ending} (h : RPost r w e w') (hr : r = (ms, er)) (hn : ms.length = n) : SP ms n er w e w' := by
  subst hr
  subst hn
  obtain ⟨a', c', ys, rfl, h1, h2, h3⟩ := h
  dsimp only at h1
  exact ⟨a', c', by rw [← h1, fst_len], ⟨ys, h1, h2⟩, h3⟩

theorem s_join (a : Option Addr) (c n : Nat) (ms : List Me) (t : ByteArray) (ro lim : Int) (ms' : List Me) (n' : Nat) (er : Int) (w : World) (hr : joinF ms t ro lim = (ms', er)) (hn : ms.length = n) (hn' : ms'.length = n') (h0 : n ≤ 1000) (ht : t.size ≤ maxLen) (hro : 0 ≤ ro ∧ ro ≤ 255) (hl : i64 lim) (hZ : OkMs ms) (hS : St w a ms) :
    Calls Try.prog 14 #[.agg #[.slice a n c], .string t, .int .u8 ro, .int .i64 lim] w (SP ms' n' er w) := by
  obtain ⟨xs, rfl, hA⟩ := hS
  rw [fst_len] at hn
  subst hn
  exact (join_any a c xs t ro lim ht hro hl w h0 (okms_xs hZ) hA).mono fun e w' h => to_sp h hr hn'
theorem s_leave (a : Option Addr) (c n : Nat) (ms : List Me) (t : ByteArray) (ms' : List Me) (n' : Nat) (er : Int) (w : World) (hr : leaveF ms t = (ms', er)) (hn : ms.length = n) (hn' : ms'.length = n') (h0 : n ≤ 1000)  (hZ : OkMs ms) (hS : St w a ms) :
    Calls Try.prog 15 #[.agg #[.slice a n c], .string t] w (SP ms' n' er w) := by
  obtain ⟨xs, rfl, hA⟩ := hS
  rw [fst_len] at hn
  subst hn
  exact (leave_any a c xs t w h0 (okms_xs hZ) hA).mono fun e w' h => to_sp h hr hn'
theorem s_setlimit (a : Option Addr) (c n : Nat) (ms : List Me) (t : ByteArray) (lim : Int) (ms' : List Me) (n' : Nat) (er : Int) (w : World) (hr : chgF ms t (fLim lim) = (ms', er)) (hn : ms.length = n) (hn' : ms'.length = n') (h0 : n ≤ 1000)  (hZ : OkMs ms) (hS : St w a ms) :
    Calls Try.prog 16 #[.agg #[.slice a n c], .string t, .int .i64 lim] w (SP ms' n' er w) := by
  obtain ⟨xs, rfl, hA⟩ := hS
  rw [fst_len] at hn
  subst hn
  exact (setlimit_any a c xs t lim w h0 (okms_xs hZ) hA).mono fun e w' h => to_sp h hr hn'
theorem s_suspend (a : Option Addr) (c n : Nat) (ms : List Me) (t : ByteArray) (is : Bool) (ms' : List Me) (n' : Nat) (er : Int) (w : World) (hr : chgF ms t (fSus is) = (ms', er)) (hn : ms.length = n) (hn' : ms'.length = n') (h0 : n ≤ 1000)  (hZ : OkMs ms) (hS : St w a ms) :
    Calls Try.prog 17 #[.agg #[.slice a n c], .string t, .bool is] w (SP ms' n' er w) := by
  obtain ⟨xs, rfl, hA⟩ := hS
  rw [fst_len] at hn
  subst hn
  exact (suspend_any a c xs t is w h0 (okms_xs hZ) hA).mono fun e w' h => to_sp h hr hn'
theorem s_open (a : Option Addr) (c n : Nat) (ms : List Me) (t t2 : ByteArray) (cl : Bool) (lim : Int) (ms' : List Me) (n' : Nat) (er : Int) (w : World) (hr : chgF ms t (fOpen t2 cl lim) = (ms', er)) (hn : ms.length = n) (hn' : ms'.length = n') (h0 : n ≤ 1000) (ht2 : t2.size ≤ maxLen) (hZ : OkMs ms) (hS : St w a ms) :
    Calls Try.prog 18 #[.agg #[.slice a n c], .string t, .string t2, .bool cl, .int .i64 lim] w (SP ms' n' er w) := by
  obtain ⟨xs, rfl, hA⟩ := hS
  rw [fst_len] at hn
  subst hn
  exact (open_any a c xs t t2 cl lim ht2 w h0 (okms_xs hZ) hA).mono fun e w' h => to_sp h hr hn'
theorem s_close (a : Option Addr) (c n : Nat) (ms : List Me) (t t2 : ByteArray) (ms' : List Me) (n' : Nat) (er : Int) (w : World) (hr : chgF ms t (fClose t2) = (ms', er)) (hn : ms.length = n) (hn' : ms'.length = n') (h0 : n ≤ 1000)  (hZ : OkMs ms) (hS : St w a ms) :
    Calls Try.prog 20 #[.agg #[.slice a n c], .string t, .string t2] w (SP ms' n' er w) := by
  obtain ⟨xs, rfl, hA⟩ := hS
  rw [fst_len] at hn
  subst hn
  exact (close_any a c xs t t2 w h0 (okms_xs hZ) hA).mono fun e w' h => to_sp h hr hn'
theorem s_use (a : Option Addr) (c n : Nat) (ms : List Me) (t t2 : ByteArray) (k : Int) (ms' : List Me) (n' : Nat) (er : Int) (w : World) (hr : chgF ms t (fUse t2 k) = (ms', er)) (hn : ms.length = n) (hn' : ms'.length = n') (h0 : n ≤ 1000) (hk : i64 k) (hZ : OkMs ms) (hS : St w a ms) :
    Calls Try.prog 19 #[.agg #[.slice a n c], .string t, .string t2, .int .i64 k] w (SP ms' n' er w) := by
  obtain ⟨xs, rfl, hA⟩ := hS
  rw [fst_len] at hn
  subst hn
  exact (use_any a c xs t t2 k hk w h0 (okms_xs hZ) hA).mono fun e w' h => to_sp h hr hn'
theorem s_move (a : Option Addr) (c n : Nat) (ms : List Me) (t fr tt : ByteArray) (k : Int) (ms' : List Me) (n' : Nat) (er : Int) (w : World) (hr : chgF ms t (fMove fr tt k) = (ms', er)) (hn : ms.length = n) (hn' : ms'.length = n') (h0 : n ≤ 1000)  (hZ : OkMs ms) (hS : St w a ms) :
    Calls Try.prog 21 #[.agg #[.slice a n c], .string t, .string fr, .string tt, .int .i64 k] w (SP ms' n' er w) := by
  obtain ⟨xs, rfl, hA⟩ := hS
  rw [fst_len] at hn
  subst hn
  exact (move_any a c xs t fr tt k w h0 (okms_xs hZ) hA).mono fun e w' h => to_sp h hr hn'
theorem s_call (a : Option Addr) (c n : Nat) (ms : List Me) (o : Opp) (ms' : List Me) (n' : Nat) (er : Int) (w : World) (hr : callF ms o = (ms', er)) (hn : ms.length = n) (hn' : ms'.length = n') (h0 : n ≤ 1000) (ho : OkO o) (hZ : OkMs ms) (hS : St w a ms) :
    Calls Try.prog 26 #[.agg #[.slice a n c], .agg #[.int .u8 o.kd, .string o.nm, .string o.fr, .string o.tt, .int .u8 o.ro, .bool o.is, .int .i64 o.am]] w (SP ms' n' er w) := by
  obtain ⟨xs, rfl, hA⟩ := hS
  rw [fst_len] at hn
  subst hn
  exact (call_any a c xs o ho w h0 (okms_xs hZ) hA).mono fun e w' h => to_sp h hr hn'

theorem s_check (a : Option Addr) (c n : Nat) (ms : List Me) (e0 : Int) (w : World) (hr : chk ms = e0) (hn : ms.length = n) (h0 : n ≤ 1000) (hZ : OkMs ms) (hS : St w a ms) :
    Calls Try.prog 22 #[.agg #[.slice a n c]] w fun e w' => e = .returned (.int .i64 e0) ∧ Below w.heap.size w w' := by
  obtain ⟨xs, rfl, hA⟩ := hS
  rw [fst_len] at hn
  subst hn
  subst hr
  exact check_any a c xs w h0 (okms_xs hZ) hA
theorem s_expo (a : Option Addr) (c n : Nat) (ms : List Me) (t : ByteArray) (x e0 : Int) (w : World) (hr : expoF ms t = (x, e0)) (hn : ms.length = n) (h0 : n ≤ 1000) (hZ : OkMs ms) (hS : St w a ms) :
    Calls Try.prog 13 #[.agg #[.slice a n c], .string t] w fun e w' => e = .returned (.tuple #[.int .i64 x, .int .i64 e0]) ∧ Below w.heap.size w w' := by
  obtain ⟨xs, rfl, hA⟩ := hS
  rw [fst_len] at hn
  subst hn
  have h := expo_any a c xs t w h0 (okms_xs hZ) hA
  rw [hr] at h
  exact h
/-- a member and whether it is there -/
def FP (m : Me) (n : Nat) (b : Bool) (w : World) : Ending → World → Prop := fun e w' => ∃ a' c', e = .returned (.tuple #[.agg #[.string m.nm, .int .u8 m.ro, .bool m.su, .int .i64 m.lim, .slice a' n c'], .bool b]) ∧ AtL w' 4 acc a' m.ac ∧ Below w.heap.size w w'
def FPO (m : Me) (n : Nat) (b : Bool) (w : World) : Ending → World → Prop := fun e w' => ∃ a' c', e = .returned (.tuple #[.agg #[.string m.nm, .int .u8 m.ro, .bool m.su, .int .i64 m.lim, .slice a' n c'], .bool b]) ∧ OwnL w' w.heap.size 32 4 acc (.slice a' n c') m.ac ∧ Below w.heap.size w w'
theorem s_mfind (a : Option Addr) (c n : Nat) (ms : List Me) (t : ByteArray) (m : Me) (n' : Nat) (b : Bool) (w : World) (hr : fdM ms t = (m, b)) (hn : ms.length = n) (hn' : m.ac.length = n') (h0 : n ≤ 1000) (hZ : ∀ m ∈ ms, m.ac.length ≤ 1000) (hS : St w a ms) :
    Calls Try.prog 32 #[.agg #[.slice a n c], .string t] w (FPO m n' b w) := by
  obtain ⟨xs, rfl, hA⟩ := hS
  rw [fst_len] at hn
  subst hn
  subst hn'
  refine (mfind_any a c xs t w h0 (fun x hx => hZ _ (List.mem_map.2 ⟨x, hx, rfl⟩)) hA).mono ?_
  rw [hr]
  rintro e w' ⟨a', c', h1, h2, h3⟩
  exact ⟨a', c', h1, h2, h3⟩
theorem s_rfind (a : Option Addr) (c n : Nat) (ms : List Me) (t : ByteArray) (m : Me) (n' : Nat) (b : Bool) (w : World) (hr : fdM ms t = (m, b)) (hn : ms.length = n) (hn' : m.ac.length = n') (h0 : n ≤ 1000) (hS : St w a ms) :
    Calls Try.prog 25 #[.agg #[.slice a n c], .string t] w (FP m n' b w) := by
  obtain ⟨xs, rfl, hA⟩ := hS
  rw [fst_len] at hn
  subst hn
  subst hn'
  refine (rfind_any a c xs t w h0 hA).mono ?_
  rw [hr]
  rintro e w' ⟨a', c', h1, h2, h3⟩
  exact ⟨a', c', h1, h2, h3⟩
theorem s_twin (a : Option Addr) (c n : Nat) (ms : List Me) (w : World) (hn : ms.length = n) (h0 : n ≤ 1000) (hZ : ∀ m ∈ ms, m.ac.length ≤ 1000) (hS : St w a ms) :
    Calls Try.prog 12 #[.agg #[.slice a n c]] w fun e w' => ∃ a' c', e = .returned (.agg #[.slice a' n c']) ∧ StO w' w.heap.size a' c' ms ∧ Below w.heap.size w w' := by
  obtain ⟨xs, rfl, hA⟩ := hS
  rw [fst_len] at hn
  subst hn
  refine (rtwins_any a c xs w h0 (fun x hx => hZ _ (List.mem_map.2 ⟨x, hx, rfl⟩)) hA).mono ?_
  rintro e w' ⟨a', c', ys, h1, h2, h3, h4⟩
  exact ⟨a', c', h1, ⟨ys, h2, h3⟩, h4⟩
theorem s_same (a a2 : Option Addr) (c c2 n n2 : Nat) (ms ms2 : List Me) (b : Bool) (w : World) (hr : decide (ms = ms2) = b) (hn : ms.length = n) (hn2 : ms2.length = n2) (h0 : n ≤ 1000) (hZ : ∀ m ∈ ms, m.ac.length ≤ 1000) (hS : St w a ms) (hS2 : St w a2 ms2) :
    Calls Try.prog 27 #[.agg #[.slice a n c], .agg #[.slice a2 n2 c2]] w fun e w' => e = .returned (.bool b) ∧ Below w.heap.size w w' := by
  obtain ⟨xs, rfl, hA⟩ := hS
  obtain ⟨ys, rfl, hB⟩ := hS2
  rw [fst_len] at hn hn2
  subst hn
  subst hn2
  subst hr
  exact same_any a a2 c c2 xs ys w h0 (fun x hx => hZ _ (List.mem_map.2 ⟨x, hx, rfl⟩)) hA hB
theorem s_samem (a a2 : Option Addr) (c c2 n n2 : Nat) (m m2 : Me) (b : Bool) (w : World) (hr : decide (m = m2) = b) (hn : m.ac.length = n) (hn2 : m2.ac.length = n2) (h0 : n ≤ 1000) (hS : AtL w 4 acc a m.ac) (hS2 : AtL w 4 acc a2 m2.ac) :
    Calls Try.prog 31 #[.agg #[.string m.nm, .int .u8 m.ro, .bool m.su, .int .i64 m.lim, .slice a n c], .agg #[.string m2.nm, .int .u8 m2.ro, .bool m2.su, .int .i64 m2.lim, .slice a2 n2 c2]] w fun e w' => e = .returned (.bool b) ∧ Below w.heap.size w w' := by
  subst hn
  subst hn2
  subst hr
  exact samem_any (m, (a, c)) (m2, (a2, c2)) w h0 hS hS2
end Go.Proofs.Ytoemjpfoddeinaa.Mb
