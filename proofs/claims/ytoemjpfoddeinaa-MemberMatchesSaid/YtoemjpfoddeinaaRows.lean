/-
  No cell of these rows narrows 'for every input' (looked for: loops, veiled, ifaces, maps, wideKeys, modest, calm, conditions, laid).
  DERIVED. THE GIVEN ROWS OF THIS SEAT. 8 by the template 'for every input the law returns true; each argument reads behind the call as it read before'; 0 by the template 'total and deterministic' (their statements: YtoemjpfoddeinaaTotals.lean).
  GIVEN WITH THE SEED: the statements are not yours to turn. If you find one false, say at which input.
  Laid BY PROGRAM, IN A SANDBOX (cutbox-rows.mjs): the forced cells as the released guide's own fill.sh prints them over the translation 97f8f9412118eed5… (all of the seat's roots in one cut). By AI agents, Wed Nov 11 2026. No macro, syntax, notation, axiom, sorry.
-/
import Derived.Test.YtoemjpfoddeinaaChecked
import GoSem.Claim
import GoSem.ClaimJoined
import GoSem.ClaimMapViews
import Derived.JoinedTies
import Derived.KernelRfl
namespace Go.Proofs.Ytoemjpfoddeinaa
/- THE CELL 'sum', in the pinned program and in every row, IS THE sha256 OF THE DUMP (.gsa) THAT YtoemjpfoddeinaaProg.lean LOADS. Nothing in Lean hashes anything: it is a label: what it is worth is what the hold of that sum in a sandbox is worth. -/
noncomputable def Try.pinned : Pinned := { name := "ytoemjpfoddeinaa", sum := "97f8f9412118eed5d049f7a4a6dcb476b58c7854eeed436f5b7a2b04b0d314c3", checked := Try.checked }
namespace Rows
def none {H : Type} : Left H := { results := [], args := [] }

/-- 'novationlaw33.MemberNames': WHATEVER THE INPUT: true; the input reads as it did. -/
def memberNamesSpec : ChangeSpec := { name := "memberNames", fn := fun _ => fun
  | [] => { results := [.lit (.bool true)], args := [] }
  | _ => none }
def memberNamesRow : OpenClaim := { program := "ytoemjpfoddeinaa", sum := "97f8f9412118eed5d049f7a4a6dcb476b58c7854eeed436f5b7a2b04b0d314c3", func := "novation/novationlaw33.MemberNames", spec := "memberNames", inPlace := ["slices.overlaps[novation/api.Member]", "slices.overlaps[novation/api.MemberAccount]"], unfollowed := true, recurses := true, apart := false }
def MemberNamesSaid : Prop := memberNamesRow.holds Try.pinned (OpenSpec.ofChange memberNamesSpec)

/-- ITS FALSE NEIGHBOUR: 'it returns false'. Refute it at one input. -/
def memberNamesWrong : ChangeSpec := { name := "memberNames", fn := fun _ => fun
  | [] => { results := [.lit (.bool false)], args := [] }
  | _ => none }
def MemberNamesWrongFalsely : Prop := memberNamesRow.holds Try.pinned (OpenSpec.ofChange memberNamesWrong)

/-- 'novationlaw33.MemberSuspended': WHATEVER THE INPUT: true; the input reads as it did. -/
def memberSuspendedSpec : ChangeSpec := { name := "memberSuspended", fn := fun _ => fun
  | [d1, d2] => { results := [.lit (.bool true)], args := [d1, d2] }
  | _ => none }
def memberSuspendedRow : OpenClaim := { program := "ytoemjpfoddeinaa", sum := "97f8f9412118eed5d049f7a4a6dcb476b58c7854eeed436f5b7a2b04b0d314c3", func := "novation/novationlaw33.MemberSuspended", spec := "memberSuspended", inPlace := ["slices.overlaps[novation/api.Member]", "slices.overlaps[novation/api.MemberAccount]"], unfollowed := true, recurses := true, apart := false }
def MemberSuspendedSaid : Prop := memberSuspendedRow.holds Try.pinned (OpenSpec.ofChange memberSuspendedSpec)

/-- ITS FALSE NEIGHBOUR: 'it returns false'. Refute it at one input. -/
def memberSuspendedWrong : ChangeSpec := { name := "memberSuspended", fn := fun _ => fun
  | [d1, d2] => { results := [.lit (.bool false)], args := [d1, d2] }
  | _ => none }
def MemberSuspendedWrongFalsely : Prop := memberSuspendedRow.holds Try.pinned (OpenSpec.ofChange memberSuspendedWrong)

/-- 'novationlaw33.MemberMoves': WHATEVER THE INPUT: true; the input reads as it did. -/
def memberMovesSpec : ChangeSpec := { name := "memberMoves", fn := fun _ => fun
  | [d1, d2, d3, d4, d5] => { results := [.lit (.bool true)], args := [d1, d2, d3, d4, d5] }
  | _ => none }
def memberMovesRow : OpenClaim := { program := "ytoemjpfoddeinaa", sum := "97f8f9412118eed5d049f7a4a6dcb476b58c7854eeed436f5b7a2b04b0d314c3", func := "novation/novationlaw33.MemberMoves", spec := "memberMoves", inPlace := ["slices.overlaps[novation/api.Member]", "slices.overlaps[novation/api.MemberAccount]"], unfollowed := true, recurses := true, apart := false }
def MemberMovesSaid : Prop := memberMovesRow.holds Try.pinned (OpenSpec.ofChange memberMovesSpec)

/-- ITS FALSE NEIGHBOUR: 'it returns false'. Refute it at one input. -/
def memberMovesWrong : ChangeSpec := { name := "memberMoves", fn := fun _ => fun
  | [d1, d2, d3, d4, d5] => { results := [.lit (.bool false)], args := [d1, d2, d3, d4, d5] }
  | _ => none }
def MemberMovesWrongFalsely : Prop := memberMovesRow.holds Try.pinned (OpenSpec.ofChange memberMovesWrong)

/-- 'novationlaw33.MemberRuns': WHATEVER THE INPUT: true; the input reads as it did. -/
def memberRunsSpec : ChangeSpec := { name := "memberRuns", fn := fun _ => fun
  | [d] => { results := [.lit (.bool true)], args := [d] }
  | _ => none }
def memberRunsRow : OpenClaim := { program := "ytoemjpfoddeinaa", sum := "97f8f9412118eed5d049f7a4a6dcb476b58c7854eeed436f5b7a2b04b0d314c3", func := "novation/novationlaw33.MemberRuns", spec := "memberRuns", inPlace := ["slices.overlaps[novation/api.Member]", "slices.overlaps[novation/api.MemberAccount]"], unfollowed := true, recurses := true, apart := false }
def MemberRunsSaid : Prop := memberRunsRow.holds Try.pinned (OpenSpec.ofChange memberRunsSpec)

/-- ITS FALSE NEIGHBOUR: 'it returns false'. Refute it at one input. -/
def memberRunsWrong : ChangeSpec := { name := "memberRuns", fn := fun _ => fun
  | [d] => { results := [.lit (.bool false)], args := [d] }
  | _ => none }
def MemberRunsWrongFalsely : Prop := memberRunsRow.holds Try.pinned (OpenSpec.ofChange memberRunsWrong)

/-- 'novationlaw33.MemberLimits': WHATEVER THE INPUT: true; the input reads as it did. -/
def memberLimitsSpec : ChangeSpec := { name := "memberLimits", fn := fun _ => fun
  | [d] => { results := [.lit (.bool true)], args := [d] }
  | _ => none }
def memberLimitsRow : OpenClaim := { program := "ytoemjpfoddeinaa", sum := "97f8f9412118eed5d049f7a4a6dcb476b58c7854eeed436f5b7a2b04b0d314c3", func := "novation/novationlaw33.MemberLimits", spec := "memberLimits", inPlace := ["slices.overlaps[novation/api.Member]", "slices.overlaps[novation/api.MemberAccount]"], unfollowed := true, recurses := true, apart := false }
def MemberLimitsSaid : Prop := memberLimitsRow.holds Try.pinned (OpenSpec.ofChange memberLimitsSpec)

/-- ITS FALSE NEIGHBOUR: 'it returns false'. Refute it at one input. -/
def memberLimitsWrong : ChangeSpec := { name := "memberLimits", fn := fun _ => fun
  | [d] => { results := [.lit (.bool false)], args := [d] }
  | _ => none }
def MemberLimitsWrongFalsely : Prop := memberLimitsRow.holds Try.pinned (OpenSpec.ofChange memberLimitsWrong)

/-- 'novationlaw33.MemberOthers': WHATEVER THE INPUT: true; the input reads as it did. -/
def memberOthersSpec : ChangeSpec := { name := "memberOthers", fn := fun _ => fun
  | [d1, d2] => { results := [.lit (.bool true)], args := [d1, d2] }
  | _ => none }
def memberOthersRow : OpenClaim := { program := "ytoemjpfoddeinaa", sum := "97f8f9412118eed5d049f7a4a6dcb476b58c7854eeed436f5b7a2b04b0d314c3", func := "novation/novationlaw33.MemberOthers", spec := "memberOthers", inPlace := ["slices.overlaps[novation/api.Member]", "slices.overlaps[novation/api.MemberAccount]"], unfollowed := true, recurses := true, apart := false }
def MemberOthersSaid : Prop := memberOthersRow.holds Try.pinned (OpenSpec.ofChange memberOthersSpec)

/-- ITS FALSE NEIGHBOUR: 'it returns false'. Refute it at one input. -/
def memberOthersWrong : ChangeSpec := { name := "memberOthers", fn := fun _ => fun
  | [d1, d2] => { results := [.lit (.bool false)], args := [d1, d2] }
  | _ => none }
def MemberOthersWrongFalsely : Prop := memberOthersRow.holds Try.pinned (OpenSpec.ofChange memberOthersWrong)

/-- 'novationlaw33.MemberBack': WHATEVER THE INPUT: true; the input reads as it did. -/
def memberBackSpec : ChangeSpec := { name := "memberBack", fn := fun _ => fun
  | [d1, d2] => { results := [.lit (.bool true)], args := [d1, d2] }
  | _ => none }
def memberBackRow : OpenClaim := { program := "ytoemjpfoddeinaa", sum := "97f8f9412118eed5d049f7a4a6dcb476b58c7854eeed436f5b7a2b04b0d314c3", func := "novation/novationlaw33.MemberBack", spec := "memberBack", inPlace := ["slices.overlaps[novation/api.Member]", "slices.overlaps[novation/api.MemberAccount]"], unfollowed := true, recurses := true, apart := false }
def MemberBackSaid : Prop := memberBackRow.holds Try.pinned (OpenSpec.ofChange memberBackSpec)

/-- ITS FALSE NEIGHBOUR: 'it returns false'. Refute it at one input. -/
def memberBackWrong : ChangeSpec := { name := "memberBack", fn := fun _ => fun
  | [d1, d2] => { results := [.lit (.bool false)], args := [d1, d2] }
  | _ => none }
def MemberBackWrongFalsely : Prop := memberBackRow.holds Try.pinned (OpenSpec.ofChange memberBackWrong)

/-- 'novationlaw33.MemberMatches': WHATEVER THE INPUT: true; the input reads as it did. -/
def memberMatchesSpec : ChangeSpec := { name := "memberMatches", fn := fun _ => fun
  | [d1, d2] => { results := [.lit (.bool true)], args := [d1, d2] }
  | _ => none }
def memberMatchesRow : OpenClaim := { program := "ytoemjpfoddeinaa", sum := "97f8f9412118eed5d049f7a4a6dcb476b58c7854eeed436f5b7a2b04b0d314c3", func := "novation/novationlaw33.MemberMatches", spec := "memberMatches", inPlace := ["slices.overlaps[novation/api.Member]", "slices.overlaps[novation/api.MemberAccount]"], unfollowed := true, recurses := true, apart := false }
def MemberMatchesSaid : Prop := memberMatchesRow.holds Try.pinned (OpenSpec.ofChange memberMatchesSpec)

/-- ITS FALSE NEIGHBOUR: 'it returns false'. Refute it at one input. -/
def memberMatchesWrong : ChangeSpec := { name := "memberMatches", fn := fun _ => fun
  | [d1, d2] => { results := [.lit (.bool false)], args := [d1, d2] }
  | _ => none }
def MemberMatchesWrongFalsely : Prop := memberMatchesRow.holds Try.pinned (OpenSpec.ofChange memberMatchesWrong)

/- THE SECOND FORM. 'bulk': how many values and letters a reading holds, each counted each time it is reached (what is shared counts as often as it is met; a slice's spare places count too). A statement '..UptoSaid' is the law's where the arguments, and the package variables that the reading takes, are together of bulk at most 1048576: NARROWER than '..Said'. Prove '..Said' where nothing that the law and all that it calls make is longer than what came in: it says more and counts as full. Else prove '..UptoSaid'. A law counts once. -/
mutual
def uptoBulk {H : Type} : DataW H → Nat
  | .lit (.string bytes) => bytes.length + 1
  | .lit _ => 1
  | .nil => 1
  | .ptr d => uptoBulk d + 1
  | .slice elems spare => uptoBulkAll elems + uptoBulkAll spare + 1
  | .agg parts => uptoBulkAll parts + 1
  | .iface _ d => uptoBulk d + 1
  | .map entries => uptoBulkEntries entries + 1
  | .held _ => 1
def uptoBulkAll {H : Type} : List (DataW H) → Nat
  | [] => 0
  | d :: r => uptoBulk d + uptoBulkAll r
def uptoBulkEntries {H : Type} : List (Lit × DataW H) → Nat
  | [] => 0
  | x :: r => uptoBulkEntry x + uptoBulkEntries r
def uptoBulkEntry {H : Type} : Lit × DataW H → Nat
  | (.string bytes, d) => bytes.length + uptoBulk d + 1
  | (_, d) => uptoBulk d + 1
 end
def uptoSmall : (H : Type) → List (DataW H) → Bool := fun _ ds => decide (uptoBulkAll ds ≤ 1048576)
def OpenSpec.upto (s : _root_.Go.ChangeSpec) : _root_.Go.OpenSpec := { _root_.Go.OpenSpec.ofChange s with cond := some uptoSmall }

/-- 'novationlaw33.MemberNames', WHERE WHAT IT READS IS OF BULK AT MOST 1048576: true; the input reads as it did. -/
def memberNamesUptoRow : OpenClaim := { program := "ytoemjpfoddeinaa", sum := "97f8f9412118eed5d049f7a4a6dcb476b58c7854eeed436f5b7a2b04b0d314c3", func := "novation/novationlaw33.MemberNames", spec := "memberNames", inPlace := ["slices.overlaps[novation/api.Member]", "slices.overlaps[novation/api.MemberAccount]"], unfollowed := true, recurses := true, apart := false, narrowed := true }
def MemberNamesUptoSaid : Prop := memberNamesUptoRow.holds Try.pinned (OpenSpec.upto memberNamesSpec)

/-- 'novationlaw33.MemberSuspended', WHERE WHAT IT READS IS OF BULK AT MOST 1048576: true; the input reads as it did. -/
def memberSuspendedUptoRow : OpenClaim := { program := "ytoemjpfoddeinaa", sum := "97f8f9412118eed5d049f7a4a6dcb476b58c7854eeed436f5b7a2b04b0d314c3", func := "novation/novationlaw33.MemberSuspended", spec := "memberSuspended", inPlace := ["slices.overlaps[novation/api.Member]", "slices.overlaps[novation/api.MemberAccount]"], unfollowed := true, recurses := true, apart := false, narrowed := true }
def MemberSuspendedUptoSaid : Prop := memberSuspendedUptoRow.holds Try.pinned (OpenSpec.upto memberSuspendedSpec)

/-- 'novationlaw33.MemberMoves', WHERE WHAT IT READS IS OF BULK AT MOST 1048576: true; the input reads as it did. -/
def memberMovesUptoRow : OpenClaim := { program := "ytoemjpfoddeinaa", sum := "97f8f9412118eed5d049f7a4a6dcb476b58c7854eeed436f5b7a2b04b0d314c3", func := "novation/novationlaw33.MemberMoves", spec := "memberMoves", inPlace := ["slices.overlaps[novation/api.Member]", "slices.overlaps[novation/api.MemberAccount]"], unfollowed := true, recurses := true, apart := false, narrowed := true }
def MemberMovesUptoSaid : Prop := memberMovesUptoRow.holds Try.pinned (OpenSpec.upto memberMovesSpec)

/-- 'novationlaw33.MemberRuns', WHERE WHAT IT READS IS OF BULK AT MOST 1048576: true; the input reads as it did. -/
def memberRunsUptoRow : OpenClaim := { program := "ytoemjpfoddeinaa", sum := "97f8f9412118eed5d049f7a4a6dcb476b58c7854eeed436f5b7a2b04b0d314c3", func := "novation/novationlaw33.MemberRuns", spec := "memberRuns", inPlace := ["slices.overlaps[novation/api.Member]", "slices.overlaps[novation/api.MemberAccount]"], unfollowed := true, recurses := true, apart := false, narrowed := true }
def MemberRunsUptoSaid : Prop := memberRunsUptoRow.holds Try.pinned (OpenSpec.upto memberRunsSpec)

/-- 'novationlaw33.MemberLimits', WHERE WHAT IT READS IS OF BULK AT MOST 1048576: true; the input reads as it did. -/
def memberLimitsUptoRow : OpenClaim := { program := "ytoemjpfoddeinaa", sum := "97f8f9412118eed5d049f7a4a6dcb476b58c7854eeed436f5b7a2b04b0d314c3", func := "novation/novationlaw33.MemberLimits", spec := "memberLimits", inPlace := ["slices.overlaps[novation/api.Member]", "slices.overlaps[novation/api.MemberAccount]"], unfollowed := true, recurses := true, apart := false, narrowed := true }
def MemberLimitsUptoSaid : Prop := memberLimitsUptoRow.holds Try.pinned (OpenSpec.upto memberLimitsSpec)

/-- 'novationlaw33.MemberOthers', WHERE WHAT IT READS IS OF BULK AT MOST 1048576: true; the input reads as it did. -/
def memberOthersUptoRow : OpenClaim := { program := "ytoemjpfoddeinaa", sum := "97f8f9412118eed5d049f7a4a6dcb476b58c7854eeed436f5b7a2b04b0d314c3", func := "novation/novationlaw33.MemberOthers", spec := "memberOthers", inPlace := ["slices.overlaps[novation/api.Member]", "slices.overlaps[novation/api.MemberAccount]"], unfollowed := true, recurses := true, apart := false, narrowed := true }
def MemberOthersUptoSaid : Prop := memberOthersUptoRow.holds Try.pinned (OpenSpec.upto memberOthersSpec)

/-- 'novationlaw33.MemberBack', WHERE WHAT IT READS IS OF BULK AT MOST 1048576: true; the input reads as it did. -/
def memberBackUptoRow : OpenClaim := { program := "ytoemjpfoddeinaa", sum := "97f8f9412118eed5d049f7a4a6dcb476b58c7854eeed436f5b7a2b04b0d314c3", func := "novation/novationlaw33.MemberBack", spec := "memberBack", inPlace := ["slices.overlaps[novation/api.Member]", "slices.overlaps[novation/api.MemberAccount]"], unfollowed := true, recurses := true, apart := false, narrowed := true }
def MemberBackUptoSaid : Prop := memberBackUptoRow.holds Try.pinned (OpenSpec.upto memberBackSpec)

/-- 'novationlaw33.MemberMatches', WHERE WHAT IT READS IS OF BULK AT MOST 1048576: true; the input reads as it did. -/
def memberMatchesUptoRow : OpenClaim := { program := "ytoemjpfoddeinaa", sum := "97f8f9412118eed5d049f7a4a6dcb476b58c7854eeed436f5b7a2b04b0d314c3", func := "novation/novationlaw33.MemberMatches", spec := "memberMatches", inPlace := ["slices.overlaps[novation/api.Member]", "slices.overlaps[novation/api.MemberAccount]"], unfollowed := true, recurses := true, apart := false, narrowed := true }
def MemberMatchesUptoSaid : Prop := memberMatchesUptoRow.holds Try.pinned (OpenSpec.upto memberMatchesSpec)

end Rows
end Go.Proofs.Ytoemjpfoddeinaa
