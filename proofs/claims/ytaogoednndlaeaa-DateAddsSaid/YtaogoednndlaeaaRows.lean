/-
  No cell of these rows narrows 'for every input' (looked for: loops, veiled, ifaces, maps, wideKeys, modest, calm, conditions, laid).
  DERIVED. THE GIVEN ROWS OF THIS SEAT. 9 by the template 'for every input the law returns true; each argument reads behind the call as it read before'; 0 by the template 'total and deterministic' (their statements: YtaogoednndlaeaaTotals.lean).
  GIVEN WITH THE SEED: the statements are not yours to turn. If you find one false, say at which input.
  Laid BY PROGRAM, IN A SANDBOX (cutbox-rows.mjs): the forced cells as the released guide's own fill.sh prints them over the translation cdea87352de8e965… (all of the seat's roots in one cut). By AI agents, Wed Nov 11 2026. No macro, syntax, notation, axiom, sorry.
-/
import Derived.Test.YtaogoednndlaeaaChecked
import GoSem.Claim
import GoSem.ClaimJoined
import GoSem.ClaimMapViews
import Derived.JoinedTies
import Derived.KernelRfl
namespace Go.Proofs.Ytaogoednndlaeaa
/- THE CELL 'sum', in the pinned program and in every row, IS THE sha256 OF THE DUMP (.gsa) THAT YtaogoednndlaeaaProg.lean LOADS. Nothing in Lean hashes anything: it is a label: what it is worth is what the hold of that sum in a sandbox is worth. -/
noncomputable def Try.pinned : Pinned := { name := "ytaogoednndlaeaa", sum := "cdea87352de8e9659d08d23e5e52574309192259a475522e8fed3c7f79afe2ec", checked := Try.checked }
namespace Rows
def none {H : Type} : Left H := { results := [], args := [] }

/-- 'novationlaw03.DateTells': WHATEVER THE INPUT: true; the input reads as it did. -/
def dateTellsSpec : ChangeSpec := { name := "dateTells", fn := fun _ => fun
  | [d1, d2, d3, d4] => { results := [.lit (.bool true)], args := [d1, d2, d3, d4] }
  | _ => none }
def dateTellsRow : OpenClaim := { program := "ytaogoednndlaeaa", sum := "cdea87352de8e9659d08d23e5e52574309192259a475522e8fed3c7f79afe2ec", func := "novation/novationlaw03.DateTells", spec := "dateTells", apart := false }
def DateTellsSaid : Prop := dateTellsRow.holds Try.pinned (OpenSpec.ofChange dateTellsSpec)

/-- ITS FALSE NEIGHBOUR: 'it returns false'. Refute it at one input. -/
def dateTellsWrong : ChangeSpec := { name := "dateTells", fn := fun _ => fun
  | [d1, d2, d3, d4] => { results := [.lit (.bool false)], args := [d1, d2, d3, d4] }
  | _ => none }
def DateTellsWrongFalsely : Prop := dateTellsRow.holds Try.pinned (OpenSpec.ofChange dateTellsWrong)

/-- 'novationlaw03.DateMonths': WHATEVER THE INPUT: true; the input reads as it did. -/
def dateMonthsSpec : ChangeSpec := { name := "dateMonths", fn := fun _ => fun
  | [d1, d2, d3] => { results := [.lit (.bool true)], args := [d1, d2, d3] }
  | _ => none }
def dateMonthsRow : OpenClaim := { program := "ytaogoednndlaeaa", sum := "cdea87352de8e9659d08d23e5e52574309192259a475522e8fed3c7f79afe2ec", func := "novation/novationlaw03.DateMonths", spec := "dateMonths", apart := false }
def DateMonthsSaid : Prop := dateMonthsRow.holds Try.pinned (OpenSpec.ofChange dateMonthsSpec)

/-- ITS FALSE NEIGHBOUR: 'it returns false'. Refute it at one input. -/
def dateMonthsWrong : ChangeSpec := { name := "dateMonths", fn := fun _ => fun
  | [d1, d2, d3] => { results := [.lit (.bool false)], args := [d1, d2, d3] }
  | _ => none }
def DateMonthsWrongFalsely : Prop := dateMonthsRow.holds Try.pinned (OpenSpec.ofChange dateMonthsWrong)

/-- 'novationlaw03.DateTexts': WHATEVER THE INPUT: true; the input reads as it did. -/
def dateTextsSpec : ChangeSpec := { name := "dateTexts", fn := fun _ => fun
  | [d1, d2] => { results := [.lit (.bool true)], args := [d1, d2] }
  | _ => none }
def dateTextsRow : OpenClaim := { program := "ytaogoednndlaeaa", sum := "cdea87352de8e9659d08d23e5e52574309192259a475522e8fed3c7f79afe2ec", func := "novation/novationlaw03.DateTexts", spec := "dateTexts", recurses := true, apart := false }
def DateTextsSaid : Prop := dateTextsRow.holds Try.pinned (OpenSpec.ofChange dateTextsSpec)

/-- ITS FALSE NEIGHBOUR: 'it returns false'. Refute it at one input. -/
def dateTextsWrong : ChangeSpec := { name := "dateTexts", fn := fun _ => fun
  | [d1, d2] => { results := [.lit (.bool false)], args := [d1, d2] }
  | _ => none }
def DateTextsWrongFalsely : Prop := dateTextsRow.holds Try.pinned (OpenSpec.ofChange dateTextsWrong)

/-- 'novationlaw03.DateNames': WHATEVER THE INPUT: true; the input reads as it did. -/
def dateNamesSpec : ChangeSpec := { name := "dateNames", fn := fun _ => fun
  | [] => { results := [.lit (.bool true)], args := [] }
  | _ => none }
def dateNamesRow : OpenClaim := { program := "ytaogoednndlaeaa", sum := "cdea87352de8e9659d08d23e5e52574309192259a475522e8fed3c7f79afe2ec", func := "novation/novationlaw03.DateNames", spec := "dateNames", recurses := true, apart := false }
def DateNamesSaid : Prop := dateNamesRow.holds Try.pinned (OpenSpec.ofChange dateNamesSpec)

/-- ITS FALSE NEIGHBOUR: 'it returns false'. Refute it at one input. -/
def dateNamesWrong : ChangeSpec := { name := "dateNames", fn := fun _ => fun
  | [] => { results := [.lit (.bool false)], args := [] }
  | _ => none }
def DateNamesWrongFalsely : Prop := dateNamesRow.holds Try.pinned (OpenSpec.ofChange dateNamesWrong)

/-- 'novationlaw03.DateInverse': WHATEVER THE INPUT: true; the input reads as it did. -/
def dateInverseSpec : ChangeSpec := { name := "dateInverse", fn := fun _ => fun
  | [d] => { results := [.lit (.bool true)], args := [d] }
  | _ => none }
def dateInverseRow : OpenClaim := { program := "ytaogoednndlaeaa", sum := "cdea87352de8e9659d08d23e5e52574309192259a475522e8fed3c7f79afe2ec", func := "novation/novationlaw03.DateInverse", spec := "dateInverse", recurses := true, apart := false }
def DateInverseSaid : Prop := dateInverseRow.holds Try.pinned (OpenSpec.ofChange dateInverseSpec)

/-- ITS FALSE NEIGHBOUR: 'it returns false'. Refute it at one input. -/
def dateInverseWrong : ChangeSpec := { name := "dateInverse", fn := fun _ => fun
  | [d] => { results := [.lit (.bool false)], args := [d] }
  | _ => none }
def DateInverseWrongFalsely : Prop := dateInverseRow.holds Try.pinned (OpenSpec.ofChange dateInverseWrong)

/-- 'novationlaw03.DateOrder': WHATEVER THE INPUT: true; the input reads as it did. -/
def dateOrderSpec : ChangeSpec := { name := "dateOrder", fn := fun _ => fun
  | [d1, d2] => { results := [.lit (.bool true)], args := [d1, d2] }
  | _ => none }
def dateOrderRow : OpenClaim := { program := "ytaogoednndlaeaa", sum := "cdea87352de8e9659d08d23e5e52574309192259a475522e8fed3c7f79afe2ec", func := "novation/novationlaw03.DateOrder", spec := "dateOrder", recurses := true, apart := false }
def DateOrderSaid : Prop := dateOrderRow.holds Try.pinned (OpenSpec.ofChange dateOrderSpec)

/-- ITS FALSE NEIGHBOUR: 'it returns false'. Refute it at one input. -/
def dateOrderWrong : ChangeSpec := { name := "dateOrder", fn := fun _ => fun
  | [d1, d2] => { results := [.lit (.bool false)], args := [d1, d2] }
  | _ => none }
def DateOrderWrongFalsely : Prop := dateOrderRow.holds Try.pinned (OpenSpec.ofChange dateOrderWrong)

/-- 'novationlaw03.DateAdds': WHATEVER THE INPUT: true; the input reads as it did. -/
def dateAddsSpec : ChangeSpec := { name := "dateAdds", fn := fun _ => fun
  | [d1, d2, d3] => { results := [.lit (.bool true)], args := [d1, d2, d3] }
  | _ => none }
def dateAddsRow : OpenClaim := { program := "ytaogoednndlaeaa", sum := "cdea87352de8e9659d08d23e5e52574309192259a475522e8fed3c7f79afe2ec", func := "novation/novationlaw03.DateAdds", spec := "dateAdds", recurses := true, apart := false }
def DateAddsSaid : Prop := dateAddsRow.holds Try.pinned (OpenSpec.ofChange dateAddsSpec)

/-- ITS FALSE NEIGHBOUR: 'it returns false'. Refute it at one input. -/
def dateAddsWrong : ChangeSpec := { name := "dateAdds", fn := fun _ => fun
  | [d1, d2, d3] => { results := [.lit (.bool false)], args := [d1, d2, d3] }
  | _ => none }
def DateAddsWrongFalsely : Prop := dateAddsRow.holds Try.pinned (OpenSpec.ofChange dateAddsWrong)

/-- 'novationlaw03.DateWords': WHATEVER THE INPUT: true; the input reads as it did. -/
def dateWordsSpec : ChangeSpec := { name := "dateWords", fn := fun _ => fun
  | [d1, d2] => { results := [.lit (.bool true)], args := [d1, d2] }
  | _ => none }
def dateWordsRow : OpenClaim := { program := "ytaogoednndlaeaa", sum := "cdea87352de8e9659d08d23e5e52574309192259a475522e8fed3c7f79afe2ec", func := "novation/novationlaw03.DateWords", spec := "dateWords", recurses := true, apart := false }
def DateWordsSaid : Prop := dateWordsRow.holds Try.pinned (OpenSpec.ofChange dateWordsSpec)

/-- ITS FALSE NEIGHBOUR: 'it returns false'. Refute it at one input. -/
def dateWordsWrong : ChangeSpec := { name := "dateWords", fn := fun _ => fun
  | [d1, d2] => { results := [.lit (.bool false)], args := [d1, d2] }
  | _ => none }
def DateWordsWrongFalsely : Prop := dateWordsRow.holds Try.pinned (OpenSpec.ofChange dateWordsWrong)

/-- 'novationlaw03.DateYears': WHATEVER THE INPUT: true; the input reads as it did. -/
def dateYearsSpec : ChangeSpec := { name := "dateYears", fn := fun _ => fun
  | [d] => { results := [.lit (.bool true)], args := [d] }
  | _ => none }
def dateYearsRow : OpenClaim := { program := "ytaogoednndlaeaa", sum := "cdea87352de8e9659d08d23e5e52574309192259a475522e8fed3c7f79afe2ec", func := "novation/novationlaw03.DateYears", spec := "dateYears", recurses := true, apart := false }
def DateYearsSaid : Prop := dateYearsRow.holds Try.pinned (OpenSpec.ofChange dateYearsSpec)

/-- ITS FALSE NEIGHBOUR: 'it returns false'. Refute it at one input. -/
def dateYearsWrong : ChangeSpec := { name := "dateYears", fn := fun _ => fun
  | [d] => { results := [.lit (.bool false)], args := [d] }
  | _ => none }
def DateYearsWrongFalsely : Prop := dateYearsRow.holds Try.pinned (OpenSpec.ofChange dateYearsWrong)

/- THE SECOND FORM. 'bulk': how many values and letters a reading holds, each counted each time it is reached (what is shared counts as often as it is met; a slice's spare places count too). A statement '..UptoSaid' is the law's where the arguments, and the package variables that the reading takes, are together of bulk at most 1048576: NARROWER than '..Said'. Prove '..Said' where nothing that the law and all that it calls make is longer than what came in: it says more and counts as full. Else prove '..UptoSaid'. A law counts once. -/
mutual
def uptoBulk {H : Type} : DataW H → Nat
  | .lit (.string bytes) => bytes.length + 1
  | .lit _ => 1
  | .nil => 1
  | .ptr d => uptoBulk d + 1
  | .slice elems spare => uptoBulkAll elems + uptoBulkAll spare + 1
  | .agg parts => uptoBulkAll parts + 1
  | .iface _ d => uptoBulk d + 1
  | .map entries => uptoBulkEntries entries + 1
  | .held _ => 1
def uptoBulkAll {H : Type} : List (DataW H) → Nat
  | [] => 0
  | d :: r => uptoBulk d + uptoBulkAll r
def uptoBulkEntries {H : Type} : List (Lit × DataW H) → Nat
  | [] => 0
  | x :: r => uptoBulkEntry x + uptoBulkEntries r
def uptoBulkEntry {H : Type} : Lit × DataW H → Nat
  | (.string bytes, d) => bytes.length + uptoBulk d + 1
  | (_, d) => uptoBulk d + 1
 end
def uptoSmall : (H : Type) → List (DataW H) → Bool := fun _ ds => decide (uptoBulkAll ds ≤ 1048576)
def OpenSpec.upto (s : _root_.Go.ChangeSpec) : _root_.Go.OpenSpec := { _root_.Go.OpenSpec.ofChange s with cond := some uptoSmall }

/-- 'novationlaw03.DateTells', WHERE WHAT IT READS IS OF BULK AT MOST 1048576: true; the input reads as it did. -/
def dateTellsUptoRow : OpenClaim := { program := "ytaogoednndlaeaa", sum := "cdea87352de8e9659d08d23e5e52574309192259a475522e8fed3c7f79afe2ec", func := "novation/novationlaw03.DateTells", spec := "dateTells", apart := false, narrowed := true }
def DateTellsUptoSaid : Prop := dateTellsUptoRow.holds Try.pinned (OpenSpec.upto dateTellsSpec)

/-- 'novationlaw03.DateMonths', WHERE WHAT IT READS IS OF BULK AT MOST 1048576: true; the input reads as it did. -/
def dateMonthsUptoRow : OpenClaim := { program := "ytaogoednndlaeaa", sum := "cdea87352de8e9659d08d23e5e52574309192259a475522e8fed3c7f79afe2ec", func := "novation/novationlaw03.DateMonths", spec := "dateMonths", apart := false, narrowed := true }
def DateMonthsUptoSaid : Prop := dateMonthsUptoRow.holds Try.pinned (OpenSpec.upto dateMonthsSpec)

/-- 'novationlaw03.DateTexts', WHERE WHAT IT READS IS OF BULK AT MOST 1048576: true; the input reads as it did. -/
def dateTextsUptoRow : OpenClaim := { program := "ytaogoednndlaeaa", sum := "cdea87352de8e9659d08d23e5e52574309192259a475522e8fed3c7f79afe2ec", func := "novation/novationlaw03.DateTexts", spec := "dateTexts", recurses := true, apart := false, narrowed := true }
def DateTextsUptoSaid : Prop := dateTextsUptoRow.holds Try.pinned (OpenSpec.upto dateTextsSpec)

/-- 'novationlaw03.DateNames', WHERE WHAT IT READS IS OF BULK AT MOST 1048576: true; the input reads as it did. -/
def dateNamesUptoRow : OpenClaim := { program := "ytaogoednndlaeaa", sum := "cdea87352de8e9659d08d23e5e52574309192259a475522e8fed3c7f79afe2ec", func := "novation/novationlaw03.DateNames", spec := "dateNames", recurses := true, apart := false, narrowed := true }
def DateNamesUptoSaid : Prop := dateNamesUptoRow.holds Try.pinned (OpenSpec.upto dateNamesSpec)

/-- 'novationlaw03.DateInverse', WHERE WHAT IT READS IS OF BULK AT MOST 1048576: true; the input reads as it did. -/
def dateInverseUptoRow : OpenClaim := { program := "ytaogoednndlaeaa", sum := "cdea87352de8e9659d08d23e5e52574309192259a475522e8fed3c7f79afe2ec", func := "novation/novationlaw03.DateInverse", spec := "dateInverse", recurses := true, apart := false, narrowed := true }
def DateInverseUptoSaid : Prop := dateInverseUptoRow.holds Try.pinned (OpenSpec.upto dateInverseSpec)

/-- 'novationlaw03.DateOrder', WHERE WHAT IT READS IS OF BULK AT MOST 1048576: true; the input reads as it did. -/
def dateOrderUptoRow : OpenClaim := { program := "ytaogoednndlaeaa", sum := "cdea87352de8e9659d08d23e5e52574309192259a475522e8fed3c7f79afe2ec", func := "novation/novationlaw03.DateOrder", spec := "dateOrder", recurses := true, apart := false, narrowed := true }
def DateOrderUptoSaid : Prop := dateOrderUptoRow.holds Try.pinned (OpenSpec.upto dateOrderSpec)

/-- 'novationlaw03.DateAdds', WHERE WHAT IT READS IS OF BULK AT MOST 1048576: true; the input reads as it did. -/
def dateAddsUptoRow : OpenClaim := { program := "ytaogoednndlaeaa", sum := "cdea87352de8e9659d08d23e5e52574309192259a475522e8fed3c7f79afe2ec", func := "novation/novationlaw03.DateAdds", spec := "dateAdds", recurses := true, apart := false, narrowed := true }
def DateAddsUptoSaid : Prop := dateAddsUptoRow.holds Try.pinned (OpenSpec.upto dateAddsSpec)

/-- 'novationlaw03.DateWords', WHERE WHAT IT READS IS OF BULK AT MOST 1048576: true; the input reads as it did. -/
def dateWordsUptoRow : OpenClaim := { program := "ytaogoednndlaeaa", sum := "cdea87352de8e9659d08d23e5e52574309192259a475522e8fed3c7f79afe2ec", func := "novation/novationlaw03.DateWords", spec := "dateWords", recurses := true, apart := false, narrowed := true }
def DateWordsUptoSaid : Prop := dateWordsUptoRow.holds Try.pinned (OpenSpec.upto dateWordsSpec)

/-- 'novationlaw03.DateYears', WHERE WHAT IT READS IS OF BULK AT MOST 1048576: true; the input reads as it did. -/
def dateYearsUptoRow : OpenClaim := { program := "ytaogoednndlaeaa", sum := "cdea87352de8e9659d08d23e5e52574309192259a475522e8fed3c7f79afe2ec", func := "novation/novationlaw03.DateYears", spec := "dateYears", recurses := true, apart := false, narrowed := true }
def DateYearsUptoSaid : Prop := dateYearsUptoRow.holds Try.pinned (OpenSpec.upto dateYearsSpec)

end Rows
end Go.Proofs.Ytaogoednndlaeaa
