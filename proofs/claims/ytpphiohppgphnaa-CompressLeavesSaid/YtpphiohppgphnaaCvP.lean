/-
  Compress, plain: the chapter's example and further trades that are written out.
-/
import Derived.Test.YtpphiohppgphnaaCz5
import Derived.Test.YtpphiohppgphnaaCs9
namespace Go.Proofs.Ytpphiohppgphnaa.Cs
open Go.RowKit Go.Proofs.Ytpphiohppgphnaa Go.Proofs.Ytpphiohppgphnaa.Ls Go.Proofs.Ytpphiohppgphnaa.Kb Go.Proofs.Ytpphiohppgphnaa.Cz
open Go.Proofs.Ytpphiohppgphnaa.Nm hiding ret_bool ret_int hb'

/-- a trade in the contract c -/
def owes (f t : Array UInt8) (n : Int) : Tr := ⟨⟨f⟩, ⟨t⟩, ⟨#[99]⟩, n⟩
def ann : Array UInt8 := #[65, 110, 110]
def bob : Array UInt8 := #[66, 111, 98]
def cy : Array UInt8 := #[67, 121]
def exL : List Tr := [owes ann bob 5, owes bob cy 3, owes cy ann 4]
def exO : List Tr := [owes ann bob 2, owes cy ann 1]
theorem cmp_go {l l2 out : List Tr} {x : Nat} {r : List Nat} (h : firstB l (x :: r) = true) (e : torn l (x :: r) = l2) (k : Cmp l2 out) : Cmp l out := .go l x r out (firstB_first h) (by rw [e]; exact k)
theorem cmp_stop {l : List Tr} (h : firstB l [] = true) : Cmp l l := .stop l (firstB_first h)
instance : DecidableEq Tr := fun a b => decidable_of_iff (a.fr = b.fr ∧ a.to_ = b.to_ ∧ a.con = b.con ∧ a.amt = b.amt) ⟨fun ⟨h1, h2, h3, h4⟩ => by cases a; cases b; simp_all, fun h => by rw [h]; exact ⟨rfl, rfl, rfl, rfl⟩⟩
theorem ex_chk : chkE exL = 0 := by decide +kernel
theorem ex_cyc : CycR exL [0, 1, 2] 0 := .some ex_chk 0 [1, 2] (firstB_first (by decide +kernel))
theorem ex_com : ComR exL exO 0 := .ok ex_chk _ (cmp_go (x := 0) (r := [1, 2]) (by decide +kernel) (by decide +kernel) (cmp_stop (by decide +kernel)))
theorem ex_net : netF exL ⟨ann⟩ ⟨#[99]⟩ = -1 ∧ netE exL ⟨ann⟩ ⟨#[99]⟩ = 0 := by decide +kernel
theorem ex_gro : groF exL = 12 := by decide +kernel
def pA : Array UInt8 := #[97]
def pB : Array UInt8 := #[98]
def pC : Array UInt8 := #[99]
def pD : Array UInt8 := #[100]
def pE : Array UInt8 := #[101]
def pair : List Tr := [owes pA pB 1125899906842624, owes pB pA 1125899906842624]
theorem pair_com : ComR pair [] 0 := .ok (by decide +kernel) _ (cmp_go (x := 0) (r := [1]) (by decide +kernel) (by decide +kernel) (cmp_stop (by decide +kernel)))
theorem nil_com : ComR [] [] 0 := .ok (by decide +kernel) _ (cmp_stop (by decide +kernel))
theorem nil_cyc : CycR [] [] 6 := .none (by decide +kernel) (firstB_first (by decide +kernel))
def twoC : List Tr := [owes pA pB 1, ⟨⟨pB⟩, ⟨pA⟩, ⟨pD⟩, 1⟩]
theorem two_cyc : CycR twoC [] 6 := .none (by decide +kernel) (firstB_first (by decide +kernel))
theorem pair_net1 : netE pair ⟨pA⟩ ⟨#[49]⟩ = 2 := by decide +kernel
theorem pair_net2 : netF pair ⟨#[122]⟩ ⟨pC⟩ = 0 ∧ netE pair ⟨#[122]⟩ ⟨pC⟩ = 0 := by decide +kernel
theorem pair_gro : groF pair = 2251799813685248 ∧ chkE pair = 0 := by decide +kernel
def shortL : List Tr := [owes pA pB 3, owes pB pC 2, owes pB pD 2, owes pC pE 2, owes pD pA 2, owes pE pA 2]
def shortO : List Tr := [owes pB pC 1, owes pC pE 1, owes pE pA 1]
theorem short_cyc : CycR shortL [0, 2, 4] 0 := .some (by decide +kernel) 0 [2, 4] (firstB_first (by decide +kernel))
theorem short_com : ComR shortL shortO 0 := .ok (by decide +kernel) _ (cmp_go (x := 0) (r := [2, 4]) (l2 := [owes pA pB 1, owes pB pC 2, owes pC pE 2, owes pE pA 2]) (by decide +kernel) (by decide +kernel) (cmp_go (x := 0) (r := [1, 2, 3]) (by decide +kernel) (by decide +kernel) (cmp_stop (by decide +kernel))))
def alikeL : List Tr := [owes pA pB 1, owes pB pC 1, owes pB pD 1, owes pC pA 1, owes pD pA 1]
theorem alike_cyc : CycR alikeL [0, 1, 3] 0 := .some (by decide +kernel) 0 [1, 3] (firstB_first (by decide +kernel))
def laterL : List Tr := [owes pA pB 1, owes pB pC 1, owes pC pB 1]
theorem later_cyc : CycR laterL [1, 2] 0 := .some (by decide +kernel) 1 [2] (firstB_first (by decide +kernel))
theorem later_com : ComR laterL [owes pA pB 1] 0 := .ok (by decide +kernel) _ (cmp_go (x := 1) (r := [2]) (by decide +kernel) (by decide +kernel) (cmp_stop (by decide +kernel)))
/-- trades that are not valid -/
def badL : List (List Tr) := [[owes pA pA 1], [owes pA pB 0], [owes pA pB 1125899906842625], [owes #[] pB 1], [owes pA #[49] 1], [owes pA pB 1, owes pA pB 2], [owes pB pA 1, owes pA pB 2], [⟨⟨pA⟩, ⟨pB⟩, ⟨#[]⟩, 1⟩]]
theorem bad_chk : ∀ l ∈ badL, chkE l = 8 := by decide +kernel
end Go.Proofs.Ytpphiohppgphnaa.Cs
