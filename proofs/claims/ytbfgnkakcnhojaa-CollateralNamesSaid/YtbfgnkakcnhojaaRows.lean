/-
  No cell of these rows narrows 'for every input' (looked for: loops, veiled, ifaces, maps, wideKeys, modest, calm, conditions, laid).
  DERIVED. THE GIVEN ROWS OF THIS SEAT. 8 by the template 'for every input the law returns true; each argument reads behind the call as it read before'; 0 by the template 'total and deterministic' (their statements: YtbfgnkakcnhojaaTotals.lean).
  GIVEN WITH THE SEED: the statements are not yours to turn. If you find one false, say at which input.
  Laid BY PROGRAM, IN A SANDBOX (cutbox-rows.mjs): the forced cells as the released guide's own fill.sh prints them over the translation 956284dc3eb82153… (all of the seat's roots in one cut). By AI agents, Wed Nov 11 2026. No macro, syntax, notation, axiom, sorry.
-/
import Derived.Test.YtbfgnkakcnhojaaChecked
import GoSem.Claim
import GoSem.ClaimJoined
import GoSem.ClaimMapViews
import Derived.JoinedTies
import Derived.KernelRfl
namespace Go.Proofs.Ytbfgnkakcnhojaa
/- THE CELL 'sum', in the pinned program and in every row, IS THE sha256 OF THE DUMP (.gsa) THAT YtbfgnkakcnhojaaProg.lean LOADS. Nothing in Lean hashes anything: it is a label: what it is worth is what the hold of that sum in a sandbox is worth. -/
noncomputable def Try.pinned : Pinned := { name := "ytbfgnkakcnhojaa", sum := "956284dc3eb821532241558cf13d4763c56cb3abf50a40f210acfa3c910dd3d2", checked := Try.checked }
namespace Rows
def none {H : Type} : Left H := { results := [], args := [] }

/-- 'novationlaw39.CollateralMatches': WHATEVER THE INPUT: true; the input reads as it did. -/
def collateralMatchesSpec : ChangeSpec := { name := "collateralMatches", fn := fun _ => fun
  | [d1, d2, d3, d4] => { results := [.lit (.bool true)], args := [d1, d2, d3, d4] }
  | _ => none }
def collateralMatchesRow : OpenClaim := { program := "ytbfgnkakcnhojaa", sum := "956284dc3eb821532241558cf13d4763c56cb3abf50a40f210acfa3c910dd3d2", func := "novation/novationlaw39.CollateralMatches", spec := "collateralMatches", unfollowed := true, recurses := true, apart := false }
def CollateralMatchesSaid : Prop := collateralMatchesRow.holds Try.pinned (OpenSpec.ofChange collateralMatchesSpec)

/-- ITS FALSE NEIGHBOUR: 'it returns false'. Refute it at one input. -/
def collateralMatchesWrong : ChangeSpec := { name := "collateralMatches", fn := fun _ => fun
  | [d1, d2, d3, d4] => { results := [.lit (.bool false)], args := [d1, d2, d3, d4] }
  | _ => none }
def CollateralMatchesWrongFalsely : Prop := collateralMatchesRow.holds Try.pinned (OpenSpec.ofChange collateralMatchesWrong)

/-- 'novationlaw39.CollateralBounds': WHATEVER THE INPUT: true; the input reads as it did. -/
def collateralBoundsSpec : ChangeSpec := { name := "collateralBounds", fn := fun _ => fun
  | [d1, d2] => { results := [.lit (.bool true)], args := [d1, d2] }
  | _ => none }
def collateralBoundsRow : OpenClaim := { program := "ytbfgnkakcnhojaa", sum := "956284dc3eb821532241558cf13d4763c56cb3abf50a40f210acfa3c910dd3d2", func := "novation/novationlaw39.CollateralBounds", spec := "collateralBounds", unfollowed := true, recurses := true, apart := false }
def CollateralBoundsSaid : Prop := collateralBoundsRow.holds Try.pinned (OpenSpec.ofChange collateralBoundsSpec)

/-- ITS FALSE NEIGHBOUR: 'it returns false'. Refute it at one input. -/
def collateralBoundsWrong : ChangeSpec := { name := "collateralBounds", fn := fun _ => fun
  | [d1, d2] => { results := [.lit (.bool false)], args := [d1, d2] }
  | _ => none }
def CollateralBoundsWrongFalsely : Prop := collateralBoundsRow.holds Try.pinned (OpenSpec.ofChange collateralBoundsWrong)

/-- 'novationlaw39.CollateralOrder': WHATEVER THE INPUT: true; the input reads as it did. -/
def collateralOrderSpec : ChangeSpec := { name := "collateralOrder", fn := fun _ => fun
  | [d1, d2, d3] => { results := [.lit (.bool true)], args := [d1, d2, d3] }
  | _ => none }
def collateralOrderRow : OpenClaim := { program := "ytbfgnkakcnhojaa", sum := "956284dc3eb821532241558cf13d4763c56cb3abf50a40f210acfa3c910dd3d2", func := "novation/novationlaw39.CollateralOrder", spec := "collateralOrder", unfollowed := true, recurses := true, apart := false }
def CollateralOrderSaid : Prop := collateralOrderRow.holds Try.pinned (OpenSpec.ofChange collateralOrderSpec)

/-- ITS FALSE NEIGHBOUR: 'it returns false'. Refute it at one input. -/
def collateralOrderWrong : ChangeSpec := { name := "collateralOrder", fn := fun _ => fun
  | [d1, d2, d3] => { results := [.lit (.bool false)], args := [d1, d2, d3] }
  | _ => none }
def CollateralOrderWrongFalsely : Prop := collateralOrderRow.holds Try.pinned (OpenSpec.ofChange collateralOrderWrong)

/-- 'novationlaw39.CollateralRelease': WHATEVER THE INPUT: true; the input reads as it did. -/
def collateralReleaseSpec : ChangeSpec := { name := "collateralRelease", fn := fun _ => fun
  | [d1, d2, d3, d4] => { results := [.lit (.bool true)], args := [d1, d2, d3, d4] }
  | _ => none }
def collateralReleaseRow : OpenClaim := { program := "ytbfgnkakcnhojaa", sum := "956284dc3eb821532241558cf13d4763c56cb3abf50a40f210acfa3c910dd3d2", func := "novation/novationlaw39.CollateralRelease", spec := "collateralRelease", unfollowed := true, recurses := true, apart := false }
def CollateralReleaseSaid : Prop := collateralReleaseRow.holds Try.pinned (OpenSpec.ofChange collateralReleaseSpec)

/-- ITS FALSE NEIGHBOUR: 'it returns false'. Refute it at one input. -/
def collateralReleaseWrong : ChangeSpec := { name := "collateralRelease", fn := fun _ => fun
  | [d1, d2, d3, d4] => { results := [.lit (.bool false)], args := [d1, d2, d3, d4] }
  | _ => none }
def CollateralReleaseWrongFalsely : Prop := collateralReleaseRow.holds Try.pinned (OpenSpec.ofChange collateralReleaseWrong)

/-- 'novationlaw39.CollateralMore': WHATEVER THE INPUT: true; the input reads as it did. -/
def collateralMoreSpec : ChangeSpec := { name := "collateralMore", fn := fun _ => fun
  | [d1, d2, d3, d4] => { results := [.lit (.bool true)], args := [d1, d2, d3, d4] }
  | _ => none }
def collateralMoreRow : OpenClaim := { program := "ytbfgnkakcnhojaa", sum := "956284dc3eb821532241558cf13d4763c56cb3abf50a40f210acfa3c910dd3d2", func := "novation/novationlaw39.CollateralMore", spec := "collateralMore", inPlace := ["slices.overlaps[novation/api.CollateralHolding]"], unfollowed := true, recurses := true, apart := false }
def CollateralMoreSaid : Prop := collateralMoreRow.holds Try.pinned (OpenSpec.ofChange collateralMoreSpec)

/-- ITS FALSE NEIGHBOUR: 'it returns false'. Refute it at one input. -/
def collateralMoreWrong : ChangeSpec := { name := "collateralMore", fn := fun _ => fun
  | [d1, d2, d3, d4] => { results := [.lit (.bool false)], args := [d1, d2, d3, d4] }
  | _ => none }
def CollateralMoreWrongFalsely : Prop := collateralMoreRow.holds Try.pinned (OpenSpec.ofChange collateralMoreWrong)

/-- 'novationlaw39.CollateralMoves': WHATEVER THE INPUT: true; the input reads as it did. -/
def collateralMovesSpec : ChangeSpec := { name := "collateralMoves", fn := fun _ => fun
  | [d1, d2, d3] => { results := [.lit (.bool true)], args := [d1, d2, d3] }
  | _ => none }
def collateralMovesRow : OpenClaim := { program := "ytbfgnkakcnhojaa", sum := "956284dc3eb821532241558cf13d4763c56cb3abf50a40f210acfa3c910dd3d2", func := "novation/novationlaw39.CollateralMoves", spec := "collateralMoves", inPlace := ["slices.overlaps[novation/api.CollateralHolding]"], unfollowed := true, recurses := true, apart := false }
def CollateralMovesSaid : Prop := collateralMovesRow.holds Try.pinned (OpenSpec.ofChange collateralMovesSpec)

/-- ITS FALSE NEIGHBOUR: 'it returns false'. Refute it at one input. -/
def collateralMovesWrong : ChangeSpec := { name := "collateralMoves", fn := fun _ => fun
  | [d1, d2, d3] => { results := [.lit (.bool false)], args := [d1, d2, d3] }
  | _ => none }
def CollateralMovesWrongFalsely : Prop := collateralMovesRow.holds Try.pinned (OpenSpec.ofChange collateralMovesWrong)

/-- 'novationlaw39.CollateralNames': WHATEVER THE INPUT: true; the input reads as it did. -/
def collateralNamesSpec : ChangeSpec := { name := "collateralNames", fn := fun _ => fun
  | [] => { results := [.lit (.bool true)], args := [] }
  | _ => none }
def collateralNamesRow : OpenClaim := { program := "ytbfgnkakcnhojaa", sum := "956284dc3eb821532241558cf13d4763c56cb3abf50a40f210acfa3c910dd3d2", func := "novation/novationlaw39.CollateralNames", spec := "collateralNames", inPlace := ["slices.overlaps[novation/api.CollateralHolding]"], unfollowed := true, recurses := true, apart := false }
def CollateralNamesSaid : Prop := collateralNamesRow.holds Try.pinned (OpenSpec.ofChange collateralNamesSpec)

/-- ITS FALSE NEIGHBOUR: 'it returns false'. Refute it at one input. -/
def collateralNamesWrong : ChangeSpec := { name := "collateralNames", fn := fun _ => fun
  | [] => { results := [.lit (.bool false)], args := [] }
  | _ => none }
def CollateralNamesWrongFalsely : Prop := collateralNamesRow.holds Try.pinned (OpenSpec.ofChange collateralNamesWrong)

/-- 'novationlaw39.CollateralBack': WHATEVER THE INPUT: true; the input reads as it did. -/
def collateralBackSpec : ChangeSpec := { name := "collateralBack", fn := fun _ => fun
  | [d1, d2, d3] => { results := [.lit (.bool true)], args := [d1, d2, d3] }
  | _ => none }
def collateralBackRow : OpenClaim := { program := "ytbfgnkakcnhojaa", sum := "956284dc3eb821532241558cf13d4763c56cb3abf50a40f210acfa3c910dd3d2", func := "novation/novationlaw39.CollateralBack", spec := "collateralBack", inPlace := ["slices.overlaps[novation/api.CollateralHolding]"], unfollowed := true, recurses := true, apart := false }
def CollateralBackSaid : Prop := collateralBackRow.holds Try.pinned (OpenSpec.ofChange collateralBackSpec)

/-- ITS FALSE NEIGHBOUR: 'it returns false'. Refute it at one input. -/
def collateralBackWrong : ChangeSpec := { name := "collateralBack", fn := fun _ => fun
  | [d1, d2, d3] => { results := [.lit (.bool false)], args := [d1, d2, d3] }
  | _ => none }
def CollateralBackWrongFalsely : Prop := collateralBackRow.holds Try.pinned (OpenSpec.ofChange collateralBackWrong)

/- THE SECOND FORM. 'bulk': how many values and letters a reading holds, each counted each time it is reached (what is shared counts as often as it is met; a slice's spare places count too). A statement '..UptoSaid' is the law's where the arguments, and the package variables that the reading takes, are together of bulk at most 1048576: NARROWER than '..Said'. Prove '..Said' where nothing that the law and all that it calls make is longer than what came in: it says more and counts as full. Else prove '..UptoSaid'. A law counts once. -/
mutual
def uptoBulk {H : Type} : DataW H → Nat
  | .lit (.string bytes) => bytes.length + 1
  | .lit _ => 1
  | .nil => 1
  | .ptr d => uptoBulk d + 1
  | .slice elems spare => uptoBulkAll elems + uptoBulkAll spare + 1
  | .agg parts => uptoBulkAll parts + 1
  | .iface _ d => uptoBulk d + 1
  | .map entries => uptoBulkEntries entries + 1
  | .held _ => 1
def uptoBulkAll {H : Type} : List (DataW H) → Nat
  | [] => 0
  | d :: r => uptoBulk d + uptoBulkAll r
def uptoBulkEntries {H : Type} : List (Lit × DataW H) → Nat
  | [] => 0
  | x :: r => uptoBulkEntry x + uptoBulkEntries r
def uptoBulkEntry {H : Type} : Lit × DataW H → Nat
  | (.string bytes, d) => bytes.length + uptoBulk d + 1
  | (_, d) => uptoBulk d + 1
 end
def uptoSmall : (H : Type) → List (DataW H) → Bool := fun _ ds => decide (uptoBulkAll ds ≤ 1048576)
def OpenSpec.upto (s : _root_.Go.ChangeSpec) : _root_.Go.OpenSpec := { _root_.Go.OpenSpec.ofChange s with cond := some uptoSmall }

/-- 'novationlaw39.CollateralMatches', WHERE WHAT IT READS IS OF BULK AT MOST 1048576: true; the input reads as it did. -/
def collateralMatchesUptoRow : OpenClaim := { program := "ytbfgnkakcnhojaa", sum := "956284dc3eb821532241558cf13d4763c56cb3abf50a40f210acfa3c910dd3d2", func := "novation/novationlaw39.CollateralMatches", spec := "collateralMatches", unfollowed := true, recurses := true, apart := false, narrowed := true }
def CollateralMatchesUptoSaid : Prop := collateralMatchesUptoRow.holds Try.pinned (OpenSpec.upto collateralMatchesSpec)

/-- 'novationlaw39.CollateralBounds', WHERE WHAT IT READS IS OF BULK AT MOST 1048576: true; the input reads as it did. -/
def collateralBoundsUptoRow : OpenClaim := { program := "ytbfgnkakcnhojaa", sum := "956284dc3eb821532241558cf13d4763c56cb3abf50a40f210acfa3c910dd3d2", func := "novation/novationlaw39.CollateralBounds", spec := "collateralBounds", unfollowed := true, recurses := true, apart := false, narrowed := true }
def CollateralBoundsUptoSaid : Prop := collateralBoundsUptoRow.holds Try.pinned (OpenSpec.upto collateralBoundsSpec)

/-- 'novationlaw39.CollateralOrder', WHERE WHAT IT READS IS OF BULK AT MOST 1048576: true; the input reads as it did. -/
def collateralOrderUptoRow : OpenClaim := { program := "ytbfgnkakcnhojaa", sum := "956284dc3eb821532241558cf13d4763c56cb3abf50a40f210acfa3c910dd3d2", func := "novation/novationlaw39.CollateralOrder", spec := "collateralOrder", unfollowed := true, recurses := true, apart := false, narrowed := true }
def CollateralOrderUptoSaid : Prop := collateralOrderUptoRow.holds Try.pinned (OpenSpec.upto collateralOrderSpec)

/-- 'novationlaw39.CollateralRelease', WHERE WHAT IT READS IS OF BULK AT MOST 1048576: true; the input reads as it did. -/
def collateralReleaseUptoRow : OpenClaim := { program := "ytbfgnkakcnhojaa", sum := "956284dc3eb821532241558cf13d4763c56cb3abf50a40f210acfa3c910dd3d2", func := "novation/novationlaw39.CollateralRelease", spec := "collateralRelease", unfollowed := true, recurses := true, apart := false, narrowed := true }
def CollateralReleaseUptoSaid : Prop := collateralReleaseUptoRow.holds Try.pinned (OpenSpec.upto collateralReleaseSpec)

/-- 'novationlaw39.CollateralMore', WHERE WHAT IT READS IS OF BULK AT MOST 1048576: true; the input reads as it did. -/
def collateralMoreUptoRow : OpenClaim := { program := "ytbfgnkakcnhojaa", sum := "956284dc3eb821532241558cf13d4763c56cb3abf50a40f210acfa3c910dd3d2", func := "novation/novationlaw39.CollateralMore", spec := "collateralMore", inPlace := ["slices.overlaps[novation/api.CollateralHolding]"], unfollowed := true, recurses := true, apart := false, narrowed := true }
def CollateralMoreUptoSaid : Prop := collateralMoreUptoRow.holds Try.pinned (OpenSpec.upto collateralMoreSpec)

/-- 'novationlaw39.CollateralMoves', WHERE WHAT IT READS IS OF BULK AT MOST 1048576: true; the input reads as it did. -/
def collateralMovesUptoRow : OpenClaim := { program := "ytbfgnkakcnhojaa", sum := "956284dc3eb821532241558cf13d4763c56cb3abf50a40f210acfa3c910dd3d2", func := "novation/novationlaw39.CollateralMoves", spec := "collateralMoves", inPlace := ["slices.overlaps[novation/api.CollateralHolding]"], unfollowed := true, recurses := true, apart := false, narrowed := true }
def CollateralMovesUptoSaid : Prop := collateralMovesUptoRow.holds Try.pinned (OpenSpec.upto collateralMovesSpec)

/-- 'novationlaw39.CollateralNames', WHERE WHAT IT READS IS OF BULK AT MOST 1048576: true; the input reads as it did. -/
def collateralNamesUptoRow : OpenClaim := { program := "ytbfgnkakcnhojaa", sum := "956284dc3eb821532241558cf13d4763c56cb3abf50a40f210acfa3c910dd3d2", func := "novation/novationlaw39.CollateralNames", spec := "collateralNames", inPlace := ["slices.overlaps[novation/api.CollateralHolding]"], unfollowed := true, recurses := true, apart := false, narrowed := true }
def CollateralNamesUptoSaid : Prop := collateralNamesUptoRow.holds Try.pinned (OpenSpec.upto collateralNamesSpec)

/-- 'novationlaw39.CollateralBack', WHERE WHAT IT READS IS OF BULK AT MOST 1048576: true; the input reads as it did. -/
def collateralBackUptoRow : OpenClaim := { program := "ytbfgnkakcnhojaa", sum := "956284dc3eb821532241558cf13d4763c56cb3abf50a40f210acfa3c910dd3d2", func := "novation/novationlaw39.CollateralBack", spec := "collateralBack", inPlace := ["slices.overlaps[novation/api.CollateralHolding]"], unfollowed := true, recurses := true, apart := false, narrowed := true }
def CollateralBackUptoSaid : Prop := collateralBackUptoRow.holds Try.pinned (OpenSpec.upto collateralBackSpec)

end Rows
end Go.Proofs.Ytbfgnkakcnhojaa
