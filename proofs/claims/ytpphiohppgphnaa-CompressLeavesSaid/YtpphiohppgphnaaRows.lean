/-
  No cell of these rows narrows 'for every input' (looked for: loops, veiled, ifaces, maps, wideKeys, modest, calm, conditions, laid).
  DERIVED. THE GIVEN ROWS OF THIS SEAT. 7 by the template 'for every input the law returns true; each argument reads behind the call as it read before'; 0 by the template 'total and deterministic' (their statements: YtpphiohppgphnaaTotals.lean).
  GIVEN WITH THE SEED: the statements are not yours to turn. If you find one false, say at which input.
  Laid BY PROGRAM, IN A SANDBOX (cutbox-rows.mjs): the forced cells as the released guide's own fill.sh prints them over the translation 7c3ceb77c4b5efcd… (all of the seat's roots in one cut). By AI agents, Wed Nov 11 2026. No macro, syntax, notation, axiom, sorry.
-/
import Derived.Test.YtpphiohppgphnaaChecked
import GoSem.Claim
import GoSem.ClaimJoined
import GoSem.ClaimMapViews
import Derived.JoinedTies
import Derived.KernelRfl
namespace Go.Proofs.Ytpphiohppgphnaa
/- THE CELL 'sum', in the pinned program and in every row, IS THE sha256 OF THE DUMP (.gsa) THAT YtpphiohppgphnaaProg.lean LOADS. Nothing in Lean hashes anything: it is a label: what it is worth is what the hold of that sum in a sandbox is worth. -/
noncomputable def Try.pinned : Pinned := { name := "ytpphiohppgphnaa", sum := "7c3ceb77c4b5efcd804eaf7fecf3310e85d6769c81db56395161337243384b3c", checked := Try.checked }
namespace Rows
def none {H : Type} : Left H := { results := [], args := [] }

/-- 'novationlaw43.CompressResults': WHATEVER THE INPUT: true; the input reads as it did. -/
def compressResultsSpec : ChangeSpec := { name := "compressResults", fn := fun _ => fun
  | [d] => { results := [.lit (.bool true)], args := [d] }
  | _ => none }
def compressResultsRow : OpenClaim := { program := "ytpphiohppgphnaa", sum := "7c3ceb77c4b5efcd804eaf7fecf3310e85d6769c81db56395161337243384b3c", func := "novation/novationlaw43.CompressResults", spec := "compressResults", unfollowed := true, recurses := true, apart := false }
def CompressResultsSaid : Prop := compressResultsRow.holds Try.pinned (OpenSpec.ofChange compressResultsSpec)

/-- ITS FALSE NEIGHBOUR: 'it returns false'. Refute it at one input. -/
def compressResultsWrong : ChangeSpec := { name := "compressResults", fn := fun _ => fun
  | [d] => { results := [.lit (.bool false)], args := [d] }
  | _ => none }
def CompressResultsWrongFalsely : Prop := compressResultsRow.holds Try.pinned (OpenSpec.ofChange compressResultsWrong)

/-- 'novationlaw43.CompressTells': WHATEVER THE INPUT: true; the input reads as it did. -/
def compressTellsSpec : ChangeSpec := { name := "compressTells", fn := fun _ => fun
  | [d1, d2, d3] => { results := [.lit (.bool true)], args := [d1, d2, d3] }
  | _ => none }
def compressTellsRow : OpenClaim := { program := "ytpphiohppgphnaa", sum := "7c3ceb77c4b5efcd804eaf7fecf3310e85d6769c81db56395161337243384b3c", func := "novation/novationlaw43.CompressTells", spec := "compressTells", unfollowed := true, recurses := true, apart := false }
def CompressTellsSaid : Prop := compressTellsRow.holds Try.pinned (OpenSpec.ofChange compressTellsSpec)

/-- ITS FALSE NEIGHBOUR: 'it returns false'. Refute it at one input. -/
def compressTellsWrong : ChangeSpec := { name := "compressTells", fn := fun _ => fun
  | [d1, d2, d3] => { results := [.lit (.bool false)], args := [d1, d2, d3] }
  | _ => none }
def CompressTellsWrongFalsely : Prop := compressTellsRow.holds Try.pinned (OpenSpec.ofChange compressTellsWrong)

/-- 'novationlaw43.CompressNames': WHATEVER THE INPUT: true; the input reads as it did. -/
def compressNamesSpec : ChangeSpec := { name := "compressNames", fn := fun _ => fun
  | [] => { results := [.lit (.bool true)], args := [] }
  | _ => none }
def compressNamesRow : OpenClaim := { program := "ytpphiohppgphnaa", sum := "7c3ceb77c4b5efcd804eaf7fecf3310e85d6769c81db56395161337243384b3c", func := "novation/novationlaw43.CompressNames", spec := "compressNames", unfollowed := true, recurses := true, apart := false }
def CompressNamesSaid : Prop := compressNamesRow.holds Try.pinned (OpenSpec.ofChange compressNamesSpec)

/-- ITS FALSE NEIGHBOUR: 'it returns false'. Refute it at one input. -/
def compressNamesWrong : ChangeSpec := { name := "compressNames", fn := fun _ => fun
  | [] => { results := [.lit (.bool false)], args := [] }
  | _ => none }
def CompressNamesWrongFalsely : Prop := compressNamesRow.holds Try.pinned (OpenSpec.ofChange compressNamesWrong)

/-- 'novationlaw43.CompressFlat': WHATEVER THE INPUT: true; the input reads as it did. -/
def compressFlatSpec : ChangeSpec := { name := "compressFlat", fn := fun _ => fun
  | [d1, d2, d3] => { results := [.lit (.bool true)], args := [d1, d2, d3] }
  | _ => none }
def compressFlatRow : OpenClaim := { program := "ytpphiohppgphnaa", sum := "7c3ceb77c4b5efcd804eaf7fecf3310e85d6769c81db56395161337243384b3c", func := "novation/novationlaw43.CompressFlat", spec := "compressFlat", unfollowed := true, recurses := true, apart := false }
def CompressFlatSaid : Prop := compressFlatRow.holds Try.pinned (OpenSpec.ofChange compressFlatSpec)

/-- ITS FALSE NEIGHBOUR: 'it returns false'. Refute it at one input. -/
def compressFlatWrong : ChangeSpec := { name := "compressFlat", fn := fun _ => fun
  | [d1, d2, d3] => { results := [.lit (.bool false)], args := [d1, d2, d3] }
  | _ => none }
def CompressFlatWrongFalsely : Prop := compressFlatRow.holds Try.pinned (OpenSpec.ofChange compressFlatWrong)

/-- 'novationlaw43.CompressLess': WHATEVER THE INPUT: true; the input reads as it did. -/
def compressLessSpec : ChangeSpec := { name := "compressLess", fn := fun _ => fun
  | [d] => { results := [.lit (.bool true)], args := [d] }
  | _ => none }
def compressLessRow : OpenClaim := { program := "ytpphiohppgphnaa", sum := "7c3ceb77c4b5efcd804eaf7fecf3310e85d6769c81db56395161337243384b3c", func := "novation/novationlaw43.CompressLess", spec := "compressLess", unfollowed := true, recurses := true, apart := false }
def CompressLessSaid : Prop := compressLessRow.holds Try.pinned (OpenSpec.ofChange compressLessSpec)

/-- ITS FALSE NEIGHBOUR: 'it returns false'. Refute it at one input. -/
def compressLessWrong : ChangeSpec := { name := "compressLess", fn := fun _ => fun
  | [d] => { results := [.lit (.bool false)], args := [d] }
  | _ => none }
def CompressLessWrongFalsely : Prop := compressLessRow.holds Try.pinned (OpenSpec.ofChange compressLessWrong)

/-- 'novationlaw43.CompressCycles': WHATEVER THE INPUT: true; the input reads as it did. -/
def compressCyclesSpec : ChangeSpec := { name := "compressCycles", fn := fun _ => fun
  | [d] => { results := [.lit (.bool true)], args := [d] }
  | _ => none }
def compressCyclesRow : OpenClaim := { program := "ytpphiohppgphnaa", sum := "7c3ceb77c4b5efcd804eaf7fecf3310e85d6769c81db56395161337243384b3c", func := "novation/novationlaw43.CompressCycles", spec := "compressCycles", unfollowed := true, recurses := true, apart := false }
def CompressCyclesSaid : Prop := compressCyclesRow.holds Try.pinned (OpenSpec.ofChange compressCyclesSpec)

/-- ITS FALSE NEIGHBOUR: 'it returns false'. Refute it at one input. -/
def compressCyclesWrong : ChangeSpec := { name := "compressCycles", fn := fun _ => fun
  | [d] => { results := [.lit (.bool false)], args := [d] }
  | _ => none }
def CompressCyclesWrongFalsely : Prop := compressCyclesRow.holds Try.pinned (OpenSpec.ofChange compressCyclesWrong)

/-- 'novationlaw43.CompressLeaves': WHATEVER THE INPUT: true; the input reads as it did. -/
def compressLeavesSpec : ChangeSpec := { name := "compressLeaves", fn := fun _ => fun
  | [d] => { results := [.lit (.bool true)], args := [d] }
  | _ => none }
def compressLeavesRow : OpenClaim := { program := "ytpphiohppgphnaa", sum := "7c3ceb77c4b5efcd804eaf7fecf3310e85d6769c81db56395161337243384b3c", func := "novation/novationlaw43.CompressLeaves", spec := "compressLeaves", unfollowed := true, recurses := true, apart := false }
def CompressLeavesSaid : Prop := compressLeavesRow.holds Try.pinned (OpenSpec.ofChange compressLeavesSpec)

/-- ITS FALSE NEIGHBOUR: 'it returns false'. Refute it at one input. -/
def compressLeavesWrong : ChangeSpec := { name := "compressLeaves", fn := fun _ => fun
  | [d] => { results := [.lit (.bool false)], args := [d] }
  | _ => none }
def CompressLeavesWrongFalsely : Prop := compressLeavesRow.holds Try.pinned (OpenSpec.ofChange compressLeavesWrong)

/- THE SECOND FORM. 'bulk': how many values and letters a reading holds, each counted each time it is reached (what is shared counts as often as it is met; a slice's spare places count too). A statement '..UptoSaid' is the law's where the arguments, and the package variables that the reading takes, are together of bulk at most 1048576: NARROWER than '..Said'. Prove '..Said' where nothing that the law and all that it calls make is longer than what came in: it says more and counts as full. Else prove '..UptoSaid'. A law counts once. -/
mutual
def uptoBulk {H : Type} : DataW H → Nat
  | .lit (.string bytes) => bytes.length + 1
  | .lit _ => 1
  | .nil => 1
  | .ptr d => uptoBulk d + 1
  | .slice elems spare => uptoBulkAll elems + uptoBulkAll spare + 1
  | .agg parts => uptoBulkAll parts + 1
  | .iface _ d => uptoBulk d + 1
  | .map entries => uptoBulkEntries entries + 1
  | .held _ => 1
def uptoBulkAll {H : Type} : List (DataW H) → Nat
  | [] => 0
  | d :: r => uptoBulk d + uptoBulkAll r
def uptoBulkEntries {H : Type} : List (Lit × DataW H) → Nat
  | [] => 0
  | x :: r => uptoBulkEntry x + uptoBulkEntries r
def uptoBulkEntry {H : Type} : Lit × DataW H → Nat
  | (.string bytes, d) => bytes.length + uptoBulk d + 1
  | (_, d) => uptoBulk d + 1
 end
def uptoSmall : (H : Type) → List (DataW H) → Bool := fun _ ds => decide (uptoBulkAll ds ≤ 1048576)
def OpenSpec.upto (s : _root_.Go.ChangeSpec) : _root_.Go.OpenSpec := { _root_.Go.OpenSpec.ofChange s with cond := some uptoSmall }

/-- 'novationlaw43.CompressResults', WHERE WHAT IT READS IS OF BULK AT MOST 1048576: true; the input reads as it did. -/
def compressResultsUptoRow : OpenClaim := { program := "ytpphiohppgphnaa", sum := "7c3ceb77c4b5efcd804eaf7fecf3310e85d6769c81db56395161337243384b3c", func := "novation/novationlaw43.CompressResults", spec := "compressResults", unfollowed := true, recurses := true, apart := false, narrowed := true }
def CompressResultsUptoSaid : Prop := compressResultsUptoRow.holds Try.pinned (OpenSpec.upto compressResultsSpec)

/-- 'novationlaw43.CompressTells', WHERE WHAT IT READS IS OF BULK AT MOST 1048576: true; the input reads as it did. -/
def compressTellsUptoRow : OpenClaim := { program := "ytpphiohppgphnaa", sum := "7c3ceb77c4b5efcd804eaf7fecf3310e85d6769c81db56395161337243384b3c", func := "novation/novationlaw43.CompressTells", spec := "compressTells", unfollowed := true, recurses := true, apart := false, narrowed := true }
def CompressTellsUptoSaid : Prop := compressTellsUptoRow.holds Try.pinned (OpenSpec.upto compressTellsSpec)

/-- 'novationlaw43.CompressNames', WHERE WHAT IT READS IS OF BULK AT MOST 1048576: true; the input reads as it did. -/
def compressNamesUptoRow : OpenClaim := { program := "ytpphiohppgphnaa", sum := "7c3ceb77c4b5efcd804eaf7fecf3310e85d6769c81db56395161337243384b3c", func := "novation/novationlaw43.CompressNames", spec := "compressNames", unfollowed := true, recurses := true, apart := false, narrowed := true }
def CompressNamesUptoSaid : Prop := compressNamesUptoRow.holds Try.pinned (OpenSpec.upto compressNamesSpec)

/-- 'novationlaw43.CompressFlat', WHERE WHAT IT READS IS OF BULK AT MOST 1048576: true; the input reads as it did. -/
def compressFlatUptoRow : OpenClaim := { program := "ytpphiohppgphnaa", sum := "7c3ceb77c4b5efcd804eaf7fecf3310e85d6769c81db56395161337243384b3c", func := "novation/novationlaw43.CompressFlat", spec := "compressFlat", unfollowed := true, recurses := true, apart := false, narrowed := true }
def CompressFlatUptoSaid : Prop := compressFlatUptoRow.holds Try.pinned (OpenSpec.upto compressFlatSpec)

/-- 'novationlaw43.CompressLess', WHERE WHAT IT READS IS OF BULK AT MOST 1048576: true; the input reads as it did. -/
def compressLessUptoRow : OpenClaim := { program := "ytpphiohppgphnaa", sum := "7c3ceb77c4b5efcd804eaf7fecf3310e85d6769c81db56395161337243384b3c", func := "novation/novationlaw43.CompressLess", spec := "compressLess", unfollowed := true, recurses := true, apart := false, narrowed := true }
def CompressLessUptoSaid : Prop := compressLessUptoRow.holds Try.pinned (OpenSpec.upto compressLessSpec)

/-- 'novationlaw43.CompressCycles', WHERE WHAT IT READS IS OF BULK AT MOST 1048576: true; the input reads as it did. -/
def compressCyclesUptoRow : OpenClaim := { program := "ytpphiohppgphnaa", sum := "7c3ceb77c4b5efcd804eaf7fecf3310e85d6769c81db56395161337243384b3c", func := "novation/novationlaw43.CompressCycles", spec := "compressCycles", unfollowed := true, recurses := true, apart := false, narrowed := true }
def CompressCyclesUptoSaid : Prop := compressCyclesUptoRow.holds Try.pinned (OpenSpec.upto compressCyclesSpec)

/-- 'novationlaw43.CompressLeaves', WHERE WHAT IT READS IS OF BULK AT MOST 1048576: true; the input reads as it did. -/
def compressLeavesUptoRow : OpenClaim := { program := "ytpphiohppgphnaa", sum := "7c3ceb77c4b5efcd804eaf7fecf3310e85d6769c81db56395161337243384b3c", func := "novation/novationlaw43.CompressLeaves", spec := "compressLeaves", unfollowed := true, recurses := true, apart := false, narrowed := true }
def CompressLeavesUptoSaid : Prop := compressLeavesUptoRow.holds Try.pinned (OpenSpec.upto compressLeavesSpec)

end Rows
end Go.Proofs.Ytpphiohppgphnaa
