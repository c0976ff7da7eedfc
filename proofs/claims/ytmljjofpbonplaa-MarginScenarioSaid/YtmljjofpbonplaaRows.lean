/-
  No cell of these rows narrows 'for every input' (looked for: loops, veiled, ifaces, maps, wideKeys, modest, calm, conditions, laid).
  DERIVED. THE GIVEN ROWS OF THIS SEAT. 8 by the template 'for every input the law returns true; each argument reads behind the call as it read before'; 0 by the template 'total and deterministic' (their statements: YtmljjofpbonplaaTotals.lean).
  GIVEN WITH THE SEED: the statements are not yours to turn. If you find one false, say at which input.
  Laid BY PROGRAM, IN A SANDBOX (cutbox-rows.mjs): the forced cells as the released guide's own fill.sh prints them over the translation 96980772548fd3dc… (all of the seat's roots in one cut). By AI agents, Wed Nov 11 2026. No macro, syntax, notation, axiom, sorry.
-/
import Derived.Test.YtmljjofpbonplaaChecked
import GoSem.Claim
import GoSem.ClaimJoined
import GoSem.ClaimMapViews
import Derived.JoinedTies
import Derived.KernelRfl
namespace Go.Proofs.Ytmljjofpbonplaa
/- THE CELL 'sum', in the pinned program and in every row, IS THE sha256 OF THE DUMP (.gsa) THAT YtmljjofpbonplaaProg.lean LOADS. Nothing in Lean hashes anything: it is a label: what it is worth is what the hold of that sum in a sandbox is worth. -/
noncomputable def Try.pinned : Pinned := { name := "ytmljjofpbonplaa", sum := "96980772548fd3dc256f98f95e632c4fe042ff1eddf45823be6d46bdbf270426", checked := Try.checked }
namespace Rows
def none {H : Type} : Left H := { results := [], args := [] }

/-- 'novationlaw36.MarginMatches': WHATEVER THE INPUT: true; the input reads as it did. -/
def marginMatchesSpec : ChangeSpec := { name := "marginMatches", fn := fun _ => fun
  | [d1, d2, d3] => { results := [.lit (.bool true)], args := [d1, d2, d3] }
  | _ => none }
def marginMatchesRow : OpenClaim := { program := "ytmljjofpbonplaa", sum := "96980772548fd3dc256f98f95e632c4fe042ff1eddf45823be6d46bdbf270426", func := "novation/novationlaw36.MarginMatches", spec := "marginMatches", unfollowed := true, recurses := true, apart := false }
def MarginMatchesSaid : Prop := marginMatchesRow.holds Try.pinned (OpenSpec.ofChange marginMatchesSpec)

/-- ITS FALSE NEIGHBOUR: 'it returns false'. Refute it at one input. -/
def marginMatchesWrong : ChangeSpec := { name := "marginMatches", fn := fun _ => fun
  | [d1, d2, d3] => { results := [.lit (.bool false)], args := [d1, d2, d3] }
  | _ => none }
def MarginMatchesWrongFalsely : Prop := marginMatchesRow.holds Try.pinned (OpenSpec.ofChange marginMatchesWrong)

/-- 'novationlaw36.MarginCovers': WHATEVER THE INPUT: true; the input reads as it did. -/
def marginCoversSpec : ChangeSpec := { name := "marginCovers", fn := fun _ => fun
  | [d1, d2] => { results := [.lit (.bool true)], args := [d1, d2] }
  | _ => none }
def marginCoversRow : OpenClaim := { program := "ytmljjofpbonplaa", sum := "96980772548fd3dc256f98f95e632c4fe042ff1eddf45823be6d46bdbf270426", func := "novation/novationlaw36.MarginCovers", spec := "marginCovers", unfollowed := true, recurses := true, apart := false }
def MarginCoversSaid : Prop := marginCoversRow.holds Try.pinned (OpenSpec.ofChange marginCoversSpec)

/-- ITS FALSE NEIGHBOUR: 'it returns false'. Refute it at one input. -/
def marginCoversWrong : ChangeSpec := { name := "marginCovers", fn := fun _ => fun
  | [d1, d2] => { results := [.lit (.bool false)], args := [d1, d2] }
  | _ => none }
def MarginCoversWrongFalsely : Prop := marginCoversRow.holds Try.pinned (OpenSpec.ofChange marginCoversWrong)

/-- 'novationlaw36.MarginScenario': WHATEVER THE INPUT: true; the input reads as it did. -/
def marginScenarioSpec : ChangeSpec := { name := "marginScenario", fn := fun _ => fun
  | [d1, d2, d3] => { results := [.lit (.bool true)], args := [d1, d2, d3] }
  | _ => none }
def marginScenarioRow : OpenClaim := { program := "ytmljjofpbonplaa", sum := "96980772548fd3dc256f98f95e632c4fe042ff1eddf45823be6d46bdbf270426", func := "novation/novationlaw36.MarginScenario", spec := "marginScenario", unfollowed := true, recurses := true, apart := false }
def MarginScenarioSaid : Prop := marginScenarioRow.holds Try.pinned (OpenSpec.ofChange marginScenarioSpec)

/-- ITS FALSE NEIGHBOUR: 'it returns false'. Refute it at one input. -/
def marginScenarioWrong : ChangeSpec := { name := "marginScenario", fn := fun _ => fun
  | [d1, d2, d3] => { results := [.lit (.bool false)], args := [d1, d2, d3] }
  | _ => none }
def MarginScenarioWrongFalsely : Prop := marginScenarioRow.holds Try.pinned (OpenSpec.ofChange marginScenarioWrong)

/-- 'novationlaw36.MarginJoins': WHATEVER THE INPUT: true; the input reads as it did. -/
def marginJoinsSpec : ChangeSpec := { name := "marginJoins", fn := fun _ => fun
  | [d1, d2] => { results := [.lit (.bool true)], args := [d1, d2] }
  | _ => none }
def marginJoinsRow : OpenClaim := { program := "ytmljjofpbonplaa", sum := "96980772548fd3dc256f98f95e632c4fe042ff1eddf45823be6d46bdbf270426", func := "novation/novationlaw36.MarginJoins", spec := "marginJoins", unfollowed := true, recurses := true, apart := false }
def MarginJoinsSaid : Prop := marginJoinsRow.holds Try.pinned (OpenSpec.ofChange marginJoinsSpec)

/-- ITS FALSE NEIGHBOUR: 'it returns false'. Refute it at one input. -/
def marginJoinsWrong : ChangeSpec := { name := "marginJoins", fn := fun _ => fun
  | [d1, d2] => { results := [.lit (.bool false)], args := [d1, d2] }
  | _ => none }
def MarginJoinsWrongFalsely : Prop := marginJoinsRow.holds Try.pinned (OpenSpec.ofChange marginJoinsWrong)

/-- 'novationlaw36.MarginNames': WHATEVER THE INPUT: true; the input reads as it did. -/
def marginNamesSpec : ChangeSpec := { name := "marginNames", fn := fun _ => fun
  | [] => { results := [.lit (.bool true)], args := [] }
  | _ => none }
def marginNamesRow : OpenClaim := { program := "ytmljjofpbonplaa", sum := "96980772548fd3dc256f98f95e632c4fe042ff1eddf45823be6d46bdbf270426", func := "novation/novationlaw36.MarginNames", spec := "marginNames", unfollowed := true, recurses := true, apart := false }
def MarginNamesSaid : Prop := marginNamesRow.holds Try.pinned (OpenSpec.ofChange marginNamesSpec)

/-- ITS FALSE NEIGHBOUR: 'it returns false'. Refute it at one input. -/
def marginNamesWrong : ChangeSpec := { name := "marginNames", fn := fun _ => fun
  | [] => { results := [.lit (.bool false)], args := [] }
  | _ => none }
def MarginNamesWrongFalsely : Prop := marginNamesRow.holds Try.pinned (OpenSpec.ofChange marginNamesWrong)

/-- 'novationlaw36.MarginJoined': WHATEVER THE INPUT: true; the input reads as it did. -/
def marginJoinedSpec : ChangeSpec := { name := "marginJoined", fn := fun _ => fun
  | [d1, d2, d3] => { results := [.lit (.bool true)], args := [d1, d2, d3] }
  | _ => none }
def marginJoinedRow : OpenClaim := { program := "ytmljjofpbonplaa", sum := "96980772548fd3dc256f98f95e632c4fe042ff1eddf45823be6d46bdbf270426", func := "novation/novationlaw36.MarginJoined", spec := "marginJoined", unfollowed := true, recurses := true, apart := false }
def MarginJoinedSaid : Prop := marginJoinedRow.holds Try.pinned (OpenSpec.ofChange marginJoinedSpec)

/-- ITS FALSE NEIGHBOUR: 'it returns false'. Refute it at one input. -/
def marginJoinedWrong : ChangeSpec := { name := "marginJoined", fn := fun _ => fun
  | [d1, d2, d3] => { results := [.lit (.bool false)], args := [d1, d2, d3] }
  | _ => none }
def MarginJoinedWrongFalsely : Prop := marginJoinedRow.holds Try.pinned (OpenSpec.ofChange marginJoinedWrong)

/-- 'novationlaw36.MarginMirror': WHATEVER THE INPUT: true; the input reads as it did. -/
def marginMirrorSpec : ChangeSpec := { name := "marginMirror", fn := fun _ => fun
  | [d1, d2] => { results := [.lit (.bool true)], args := [d1, d2] }
  | _ => none }
def marginMirrorRow : OpenClaim := { program := "ytmljjofpbonplaa", sum := "96980772548fd3dc256f98f95e632c4fe042ff1eddf45823be6d46bdbf270426", func := "novation/novationlaw36.MarginMirror", spec := "marginMirror", unfollowed := true, recurses := true, apart := false }
def MarginMirrorSaid : Prop := marginMirrorRow.holds Try.pinned (OpenSpec.ofChange marginMirrorSpec)

/-- ITS FALSE NEIGHBOUR: 'it returns false'. Refute it at one input. -/
def marginMirrorWrong : ChangeSpec := { name := "marginMirror", fn := fun _ => fun
  | [d1, d2] => { results := [.lit (.bool false)], args := [d1, d2] }
  | _ => none }
def MarginMirrorWrongFalsely : Prop := marginMirrorRow.holds Try.pinned (OpenSpec.ofChange marginMirrorWrong)

/-- 'novationlaw36.MarginSplit': WHATEVER THE INPUT: true; the input reads as it did. -/
def marginSplitSpec : ChangeSpec := { name := "marginSplit", fn := fun _ => fun
  | [d1, d2] => { results := [.lit (.bool true)], args := [d1, d2] }
  | _ => none }
def marginSplitRow : OpenClaim := { program := "ytmljjofpbonplaa", sum := "96980772548fd3dc256f98f95e632c4fe042ff1eddf45823be6d46bdbf270426", func := "novation/novationlaw36.MarginSplit", spec := "marginSplit", unfollowed := true, recurses := true, apart := false }
def MarginSplitSaid : Prop := marginSplitRow.holds Try.pinned (OpenSpec.ofChange marginSplitSpec)

/-- ITS FALSE NEIGHBOUR: 'it returns false'. Refute it at one input. -/
def marginSplitWrong : ChangeSpec := { name := "marginSplit", fn := fun _ => fun
  | [d1, d2] => { results := [.lit (.bool false)], args := [d1, d2] }
  | _ => none }
def MarginSplitWrongFalsely : Prop := marginSplitRow.holds Try.pinned (OpenSpec.ofChange marginSplitWrong)

/- THE SECOND FORM. 'bulk': how many values and letters a reading holds, each counted each time it is reached (what is shared counts as often as it is met; a slice's spare places count too). A statement '..UptoSaid' is the law's where the arguments, and the package variables that the reading takes, are together of bulk at most 1048576: NARROWER than '..Said'. Prove '..Said' where nothing that the law and all that it calls make is longer than what came in: it says more and counts as full. Else prove '..UptoSaid'. A law counts once. -/
mutual
def uptoBulk {H : Type} : DataW H → Nat
  | .lit (.string bytes) => bytes.length + 1
  | .lit _ => 1
  | .nil => 1
  | .ptr d => uptoBulk d + 1
  | .slice elems spare => uptoBulkAll elems + uptoBulkAll spare + 1
  | .agg parts => uptoBulkAll parts + 1
  | .iface _ d => uptoBulk d + 1
  | .map entries => uptoBulkEntries entries + 1
  | .held _ => 1
def uptoBulkAll {H : Type} : List (DataW H) → Nat
  | [] => 0
  | d :: r => uptoBulk d + uptoBulkAll r
def uptoBulkEntries {H : Type} : List (Lit × DataW H) → Nat
  | [] => 0
  | x :: r => uptoBulkEntry x + uptoBulkEntries r
def uptoBulkEntry {H : Type} : Lit × DataW H → Nat
  | (.string bytes, d) => bytes.length + uptoBulk d + 1
  | (_, d) => uptoBulk d + 1
 end
def uptoSmall : (H : Type) → List (DataW H) → Bool := fun _ ds => decide (uptoBulkAll ds ≤ 1048576)
def OpenSpec.upto (s : _root_.Go.ChangeSpec) : _root_.Go.OpenSpec := { _root_.Go.OpenSpec.ofChange s with cond := some uptoSmall }

/-- 'novationlaw36.MarginMatches', WHERE WHAT IT READS IS OF BULK AT MOST 1048576: true; the input reads as it did. -/
def marginMatchesUptoRow : OpenClaim := { program := "ytmljjofpbonplaa", sum := "96980772548fd3dc256f98f95e632c4fe042ff1eddf45823be6d46bdbf270426", func := "novation/novationlaw36.MarginMatches", spec := "marginMatches", unfollowed := true, recurses := true, apart := false, narrowed := true }
def MarginMatchesUptoSaid : Prop := marginMatchesUptoRow.holds Try.pinned (OpenSpec.upto marginMatchesSpec)

/-- 'novationlaw36.MarginCovers', WHERE WHAT IT READS IS OF BULK AT MOST 1048576: true; the input reads as it did. -/
def marginCoversUptoRow : OpenClaim := { program := "ytmljjofpbonplaa", sum := "96980772548fd3dc256f98f95e632c4fe042ff1eddf45823be6d46bdbf270426", func := "novation/novationlaw36.MarginCovers", spec := "marginCovers", unfollowed := true, recurses := true, apart := false, narrowed := true }
def MarginCoversUptoSaid : Prop := marginCoversUptoRow.holds Try.pinned (OpenSpec.upto marginCoversSpec)

/-- 'novationlaw36.MarginScenario', WHERE WHAT IT READS IS OF BULK AT MOST 1048576: true; the input reads as it did. -/
def marginScenarioUptoRow : OpenClaim := { program := "ytmljjofpbonplaa", sum := "96980772548fd3dc256f98f95e632c4fe042ff1eddf45823be6d46bdbf270426", func := "novation/novationlaw36.MarginScenario", spec := "marginScenario", unfollowed := true, recurses := true, apart := false, narrowed := true }
def MarginScenarioUptoSaid : Prop := marginScenarioUptoRow.holds Try.pinned (OpenSpec.upto marginScenarioSpec)

/-- 'novationlaw36.MarginJoins', WHERE WHAT IT READS IS OF BULK AT MOST 1048576: true; the input reads as it did. -/
def marginJoinsUptoRow : OpenClaim := { program := "ytmljjofpbonplaa", sum := "96980772548fd3dc256f98f95e632c4fe042ff1eddf45823be6d46bdbf270426", func := "novation/novationlaw36.MarginJoins", spec := "marginJoins", unfollowed := true, recurses := true, apart := false, narrowed := true }
def MarginJoinsUptoSaid : Prop := marginJoinsUptoRow.holds Try.pinned (OpenSpec.upto marginJoinsSpec)

/-- 'novationlaw36.MarginNames', WHERE WHAT IT READS IS OF BULK AT MOST 1048576: true; the input reads as it did. -/
def marginNamesUptoRow : OpenClaim := { program := "ytmljjofpbonplaa", sum := "96980772548fd3dc256f98f95e632c4fe042ff1eddf45823be6d46bdbf270426", func := "novation/novationlaw36.MarginNames", spec := "marginNames", unfollowed := true, recurses := true, apart := false, narrowed := true }
def MarginNamesUptoSaid : Prop := marginNamesUptoRow.holds Try.pinned (OpenSpec.upto marginNamesSpec)

/-- 'novationlaw36.MarginJoined', WHERE WHAT IT READS IS OF BULK AT MOST 1048576: true; the input reads as it did. -/
def marginJoinedUptoRow : OpenClaim := { program := "ytmljjofpbonplaa", sum := "96980772548fd3dc256f98f95e632c4fe042ff1eddf45823be6d46bdbf270426", func := "novation/novationlaw36.MarginJoined", spec := "marginJoined", unfollowed := true, recurses := true, apart := false, narrowed := true }
def MarginJoinedUptoSaid : Prop := marginJoinedUptoRow.holds Try.pinned (OpenSpec.upto marginJoinedSpec)

/-- 'novationlaw36.MarginMirror', WHERE WHAT IT READS IS OF BULK AT MOST 1048576: true; the input reads as it did. -/
def marginMirrorUptoRow : OpenClaim := { program := "ytmljjofpbonplaa", sum := "96980772548fd3dc256f98f95e632c4fe042ff1eddf45823be6d46bdbf270426", func := "novation/novationlaw36.MarginMirror", spec := "marginMirror", unfollowed := true, recurses := true, apart := false, narrowed := true }
def MarginMirrorUptoSaid : Prop := marginMirrorUptoRow.holds Try.pinned (OpenSpec.upto marginMirrorSpec)

/-- 'novationlaw36.MarginSplit', WHERE WHAT IT READS IS OF BULK AT MOST 1048576: true; the input reads as it did. -/
def marginSplitUptoRow : OpenClaim := { program := "ytmljjofpbonplaa", sum := "96980772548fd3dc256f98f95e632c4fe042ff1eddf45823be6d46bdbf270426", func := "novation/novationlaw36.MarginSplit", spec := "marginSplit", unfollowed := true, recurses := true, apart := false, narrowed := true }
def MarginSplitUptoSaid : Prop := marginSplitUptoRow.holds Try.pinned (OpenSpec.upto marginSplitSpec)

end Rows
end Go.Proofs.Ytmljjofpbonplaa
