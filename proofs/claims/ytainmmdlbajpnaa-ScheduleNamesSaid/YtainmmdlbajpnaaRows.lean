/-
  No cell of these rows narrows 'for every input' (looked for: loops, veiled, ifaces, maps, wideKeys, modest, calm, conditions, laid).
  DERIVED. THE GIVEN ROWS OF THIS SEAT. 7 by the template 'for every input the law returns true; each argument reads behind the call as it read before'; 0 by the template 'total and deterministic' (their statements: YtainmmdlbajpnaaTotals.lean).
  GIVEN WITH THE SEED: the statements are not yours to turn. If you find one false, say at which input.
  Laid BY PROGRAM, IN A SANDBOX (cutbox-rows.mjs): the forced cells as the released guide's own fill.sh prints them over the translation 443cc56fc3efcb47… (all of the seat's roots in one cut). By AI agents, Wed Nov 11 2026. No macro, syntax, notation, axiom, sorry.
-/
import Derived.Test.YtainmmdlbajpnaaChecked
import GoSem.Claim
import GoSem.ClaimJoined
import GoSem.ClaimMapViews
import Derived.JoinedTies
import Derived.KernelRfl
namespace Go.Proofs.Ytainmmdlbajpnaa
/- THE CELL 'sum', in the pinned program and in every row, IS THE sha256 OF THE DUMP (.gsa) THAT YtainmmdlbajpnaaProg.lean LOADS. Nothing in Lean hashes anything: it is a label: what it is worth is what the hold of that sum in a sandbox is worth. -/
noncomputable def Try.pinned : Pinned := { name := "ytainmmdlbajpnaa", sum := "443cc56fc3efcb47ad6a728fb11cd5f1d1a27c387c1ad9996f52ffbb3ccc5245", checked := Try.checked }
namespace Rows
def none {H : Type} : Left H := { results := [], args := [] }

/-- 'novationlaw06.ScheduleSteps': WHATEVER THE INPUT: true; the input reads as it did. -/
def scheduleStepsSpec : ChangeSpec := { name := "scheduleSteps", fn := fun _ => fun
  | [d] => { results := [.lit (.bool true)], args := [d] }
  | _ => none }
def scheduleStepsRow : OpenClaim := { program := "ytainmmdlbajpnaa", sum := "443cc56fc3efcb47ad6a728fb11cd5f1d1a27c387c1ad9996f52ffbb3ccc5245", func := "novation/novationlaw06.ScheduleSteps", spec := "scheduleSteps", unfollowed := true, recurses := true, apart := false }
def ScheduleStepsSaid : Prop := scheduleStepsRow.holds Try.pinned (OpenSpec.ofChange scheduleStepsSpec)

/-- ITS FALSE NEIGHBOUR: 'it returns false'. Refute it at one input. -/
def scheduleStepsWrong : ChangeSpec := { name := "scheduleSteps", fn := fun _ => fun
  | [d] => { results := [.lit (.bool false)], args := [d] }
  | _ => none }
def ScheduleStepsWrongFalsely : Prop := scheduleStepsRow.holds Try.pinned (OpenSpec.ofChange scheduleStepsWrong)

/-- 'novationlaw06.ScheduleStubs': WHATEVER THE INPUT: true; the input reads as it did. -/
def scheduleStubsSpec : ChangeSpec := { name := "scheduleStubs", fn := fun _ => fun
  | [d] => { results := [.lit (.bool true)], args := [d] }
  | _ => none }
def scheduleStubsRow : OpenClaim := { program := "ytainmmdlbajpnaa", sum := "443cc56fc3efcb47ad6a728fb11cd5f1d1a27c387c1ad9996f52ffbb3ccc5245", func := "novation/novationlaw06.ScheduleStubs", spec := "scheduleStubs", unfollowed := true, recurses := true, apart := false }
def ScheduleStubsSaid : Prop := scheduleStubsRow.holds Try.pinned (OpenSpec.ofChange scheduleStubsSpec)

/-- ITS FALSE NEIGHBOUR: 'it returns false'. Refute it at one input. -/
def scheduleStubsWrong : ChangeSpec := { name := "scheduleStubs", fn := fun _ => fun
  | [d] => { results := [.lit (.bool false)], args := [d] }
  | _ => none }
def ScheduleStubsWrongFalsely : Prop := scheduleStubsRow.holds Try.pinned (OpenSpec.ofChange scheduleStubsWrong)

/-- 'novationlaw06.ScheduleFinds': WHATEVER THE INPUT: true; the input reads as it did. -/
def scheduleFindsSpec : ChangeSpec := { name := "scheduleFinds", fn := fun _ => fun
  | [d1, d2] => { results := [.lit (.bool true)], args := [d1, d2] }
  | _ => none }
def scheduleFindsRow : OpenClaim := { program := "ytainmmdlbajpnaa", sum := "443cc56fc3efcb47ad6a728fb11cd5f1d1a27c387c1ad9996f52ffbb3ccc5245", func := "novation/novationlaw06.ScheduleFinds", spec := "scheduleFinds", unfollowed := true, recurses := true, apart := false }
def ScheduleFindsSaid : Prop := scheduleFindsRow.holds Try.pinned (OpenSpec.ofChange scheduleFindsSpec)

/-- ITS FALSE NEIGHBOUR: 'it returns false'. Refute it at one input. -/
def scheduleFindsWrong : ChangeSpec := { name := "scheduleFinds", fn := fun _ => fun
  | [d1, d2] => { results := [.lit (.bool false)], args := [d1, d2] }
  | _ => none }
def ScheduleFindsWrongFalsely : Prop := scheduleFindsRow.holds Try.pinned (OpenSpec.ofChange scheduleFindsWrong)

/-- 'novationlaw06.ScheduleInside': WHATEVER THE INPUT: true; the input reads as it did. -/
def scheduleInsideSpec : ChangeSpec := { name := "scheduleInside", fn := fun _ => fun
  | [d1, d2] => { results := [.lit (.bool true)], args := [d1, d2] }
  | _ => none }
def scheduleInsideRow : OpenClaim := { program := "ytainmmdlbajpnaa", sum := "443cc56fc3efcb47ad6a728fb11cd5f1d1a27c387c1ad9996f52ffbb3ccc5245", func := "novation/novationlaw06.ScheduleInside", spec := "scheduleInside", unfollowed := true, recurses := true, apart := false }
def ScheduleInsideSaid : Prop := scheduleInsideRow.holds Try.pinned (OpenSpec.ofChange scheduleInsideSpec)

/-- ITS FALSE NEIGHBOUR: 'it returns false'. Refute it at one input. -/
def scheduleInsideWrong : ChangeSpec := { name := "scheduleInside", fn := fun _ => fun
  | [d1, d2] => { results := [.lit (.bool false)], args := [d1, d2] }
  | _ => none }
def ScheduleInsideWrongFalsely : Prop := scheduleInsideRow.holds Try.pinned (OpenSpec.ofChange scheduleInsideWrong)

/-- 'novationlaw06.ScheduleTells': WHATEVER THE INPUT: true; the input reads as it did. -/
def scheduleTellsSpec : ChangeSpec := { name := "scheduleTells", fn := fun _ => fun
  | [d] => { results := [.lit (.bool true)], args := [d] }
  | _ => none }
def scheduleTellsRow : OpenClaim := { program := "ytainmmdlbajpnaa", sum := "443cc56fc3efcb47ad6a728fb11cd5f1d1a27c387c1ad9996f52ffbb3ccc5245", func := "novation/novationlaw06.ScheduleTells", spec := "scheduleTells", unfollowed := true, recurses := true, apart := false }
def ScheduleTellsSaid : Prop := scheduleTellsRow.holds Try.pinned (OpenSpec.ofChange scheduleTellsSpec)

/-- ITS FALSE NEIGHBOUR: 'it returns false'. Refute it at one input. -/
def scheduleTellsWrong : ChangeSpec := { name := "scheduleTells", fn := fun _ => fun
  | [d] => { results := [.lit (.bool false)], args := [d] }
  | _ => none }
def ScheduleTellsWrongFalsely : Prop := scheduleTellsRow.holds Try.pinned (OpenSpec.ofChange scheduleTellsWrong)

/-- 'novationlaw06.ScheduleCovers': WHATEVER THE INPUT: true; the input reads as it did. -/
def scheduleCoversSpec : ChangeSpec := { name := "scheduleCovers", fn := fun _ => fun
  | [d] => { results := [.lit (.bool true)], args := [d] }
  | _ => none }
def scheduleCoversRow : OpenClaim := { program := "ytainmmdlbajpnaa", sum := "443cc56fc3efcb47ad6a728fb11cd5f1d1a27c387c1ad9996f52ffbb3ccc5245", func := "novation/novationlaw06.ScheduleCovers", spec := "scheduleCovers", unfollowed := true, recurses := true, apart := false }
def ScheduleCoversSaid : Prop := scheduleCoversRow.holds Try.pinned (OpenSpec.ofChange scheduleCoversSpec)

/-- ITS FALSE NEIGHBOUR: 'it returns false'. Refute it at one input. -/
def scheduleCoversWrong : ChangeSpec := { name := "scheduleCovers", fn := fun _ => fun
  | [d] => { results := [.lit (.bool false)], args := [d] }
  | _ => none }
def ScheduleCoversWrongFalsely : Prop := scheduleCoversRow.holds Try.pinned (OpenSpec.ofChange scheduleCoversWrong)

/-- 'novationlaw06.ScheduleNames': WHATEVER THE INPUT: true; the input reads as it did. -/
def scheduleNamesSpec : ChangeSpec := { name := "scheduleNames", fn := fun _ => fun
  | [] => { results := [.lit (.bool true)], args := [] }
  | _ => none }
def scheduleNamesRow : OpenClaim := { program := "ytainmmdlbajpnaa", sum := "443cc56fc3efcb47ad6a728fb11cd5f1d1a27c387c1ad9996f52ffbb3ccc5245", func := "novation/novationlaw06.ScheduleNames", spec := "scheduleNames", unfollowed := true, recurses := true, apart := false }
def ScheduleNamesSaid : Prop := scheduleNamesRow.holds Try.pinned (OpenSpec.ofChange scheduleNamesSpec)

/-- ITS FALSE NEIGHBOUR: 'it returns false'. Refute it at one input. -/
def scheduleNamesWrong : ChangeSpec := { name := "scheduleNames", fn := fun _ => fun
  | [] => { results := [.lit (.bool false)], args := [] }
  | _ => none }
def ScheduleNamesWrongFalsely : Prop := scheduleNamesRow.holds Try.pinned (OpenSpec.ofChange scheduleNamesWrong)

/- THE SECOND FORM. 'bulk': how many values and letters a reading holds, each counted each time it is reached (what is shared counts as often as it is met; a slice's spare places count too). A statement '..UptoSaid' is the law's where the arguments, and the package variables that the reading takes, are together of bulk at most 1048576: NARROWER than '..Said'. Prove '..Said' where nothing that the law and all that it calls make is longer than what came in: it says more and counts as full. Else prove '..UptoSaid'. A law counts once. -/
mutual
def uptoBulk {H : Type} : DataW H → Nat
  | .lit (.string bytes) => bytes.length + 1
  | .lit _ => 1
  | .nil => 1
  | .ptr d => uptoBulk d + 1
  | .slice elems spare => uptoBulkAll elems + uptoBulkAll spare + 1
  | .agg parts => uptoBulkAll parts + 1
  | .iface _ d => uptoBulk d + 1
  | .map entries => uptoBulkEntries entries + 1
  | .held _ => 1
def uptoBulkAll {H : Type} : List (DataW H) → Nat
  | [] => 0
  | d :: r => uptoBulk d + uptoBulkAll r
def uptoBulkEntries {H : Type} : List (Lit × DataW H) → Nat
  | [] => 0
  | x :: r => uptoBulkEntry x + uptoBulkEntries r
def uptoBulkEntry {H : Type} : Lit × DataW H → Nat
  | (.string bytes, d) => bytes.length + uptoBulk d + 1
  | (_, d) => uptoBulk d + 1
 end
def uptoSmall : (H : Type) → List (DataW H) → Bool := fun _ ds => decide (uptoBulkAll ds ≤ 1048576)
def OpenSpec.upto (s : _root_.Go.ChangeSpec) : _root_.Go.OpenSpec := { _root_.Go.OpenSpec.ofChange s with cond := some uptoSmall }

/-- 'novationlaw06.ScheduleSteps', WHERE WHAT IT READS IS OF BULK AT MOST 1048576: true; the input reads as it did. -/
def scheduleStepsUptoRow : OpenClaim := { program := "ytainmmdlbajpnaa", sum := "443cc56fc3efcb47ad6a728fb11cd5f1d1a27c387c1ad9996f52ffbb3ccc5245", func := "novation/novationlaw06.ScheduleSteps", spec := "scheduleSteps", unfollowed := true, recurses := true, apart := false, narrowed := true }
def ScheduleStepsUptoSaid : Prop := scheduleStepsUptoRow.holds Try.pinned (OpenSpec.upto scheduleStepsSpec)

/-- 'novationlaw06.ScheduleStubs', WHERE WHAT IT READS IS OF BULK AT MOST 1048576: true; the input reads as it did. -/
def scheduleStubsUptoRow : OpenClaim := { program := "ytainmmdlbajpnaa", sum := "443cc56fc3efcb47ad6a728fb11cd5f1d1a27c387c1ad9996f52ffbb3ccc5245", func := "novation/novationlaw06.ScheduleStubs", spec := "scheduleStubs", unfollowed := true, recurses := true, apart := false, narrowed := true }
def ScheduleStubsUptoSaid : Prop := scheduleStubsUptoRow.holds Try.pinned (OpenSpec.upto scheduleStubsSpec)

/-- 'novationlaw06.ScheduleFinds', WHERE WHAT IT READS IS OF BULK AT MOST 1048576: true; the input reads as it did. -/
def scheduleFindsUptoRow : OpenClaim := { program := "ytainmmdlbajpnaa", sum := "443cc56fc3efcb47ad6a728fb11cd5f1d1a27c387c1ad9996f52ffbb3ccc5245", func := "novation/novationlaw06.ScheduleFinds", spec := "scheduleFinds", unfollowed := true, recurses := true, apart := false, narrowed := true }
def ScheduleFindsUptoSaid : Prop := scheduleFindsUptoRow.holds Try.pinned (OpenSpec.upto scheduleFindsSpec)

/-- 'novationlaw06.ScheduleInside', WHERE WHAT IT READS IS OF BULK AT MOST 1048576: true; the input reads as it did. -/
def scheduleInsideUptoRow : OpenClaim := { program := "ytainmmdlbajpnaa", sum := "443cc56fc3efcb47ad6a728fb11cd5f1d1a27c387c1ad9996f52ffbb3ccc5245", func := "novation/novationlaw06.ScheduleInside", spec := "scheduleInside", unfollowed := true, recurses := true, apart := false, narrowed := true }
def ScheduleInsideUptoSaid : Prop := scheduleInsideUptoRow.holds Try.pinned (OpenSpec.upto scheduleInsideSpec)

/-- 'novationlaw06.ScheduleTells', WHERE WHAT IT READS IS OF BULK AT MOST 1048576: true; the input reads as it did. -/
def scheduleTellsUptoRow : OpenClaim := { program := "ytainmmdlbajpnaa", sum := "443cc56fc3efcb47ad6a728fb11cd5f1d1a27c387c1ad9996f52ffbb3ccc5245", func := "novation/novationlaw06.ScheduleTells", spec := "scheduleTells", unfollowed := true, recurses := true, apart := false, narrowed := true }
def ScheduleTellsUptoSaid : Prop := scheduleTellsUptoRow.holds Try.pinned (OpenSpec.upto scheduleTellsSpec)

/-- 'novationlaw06.ScheduleCovers', WHERE WHAT IT READS IS OF BULK AT MOST 1048576: true; the input reads as it did. -/
def scheduleCoversUptoRow : OpenClaim := { program := "ytainmmdlbajpnaa", sum := "443cc56fc3efcb47ad6a728fb11cd5f1d1a27c387c1ad9996f52ffbb3ccc5245", func := "novation/novationlaw06.ScheduleCovers", spec := "scheduleCovers", unfollowed := true, recurses := true, apart := false, narrowed := true }
def ScheduleCoversUptoSaid : Prop := scheduleCoversUptoRow.holds Try.pinned (OpenSpec.upto scheduleCoversSpec)

/-- 'novationlaw06.ScheduleNames', WHERE WHAT IT READS IS OF BULK AT MOST 1048576: true; the input reads as it did. -/
def scheduleNamesUptoRow : OpenClaim := { program := "ytainmmdlbajpnaa", sum := "443cc56fc3efcb47ad6a728fb11cd5f1d1a27c387c1ad9996f52ffbb3ccc5245", func := "novation/novationlaw06.ScheduleNames", spec := "scheduleNames", unfollowed := true, recurses := true, apart := false, narrowed := true }
def ScheduleNamesUptoSaid : Prop := scheduleNamesUptoRow.holds Try.pinned (OpenSpec.upto scheduleNamesSpec)

end Rows
end Go.Proofs.Ytainmmdlbajpnaa
