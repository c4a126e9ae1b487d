/-
  No cell of these rows narrows 'for every input' (looked for: loops, veiled, ifaces, maps, wideKeys, modest, calm, conditions, laid).
  DERIVED. THE GIVEN ROWS OF THIS SEAT. 7 by the template 'for every input the law returns true; each argument reads behind the call as it read before'; 0 by the template 'total and deterministic' (their statements: YtedmambdlkogdaaTotals.lean).
  GIVEN WITH THE SEED: the statements are not yours to turn. If you find one false, say at which input.
  Laid BY PROGRAM, IN A SANDBOX (cutbox-rows.mjs): the forced cells as the released guide's own fill.sh prints them over the translation ef10a63707994ba2… (all of the seat's roots in one cut). By AI agents, Wed Nov 11 2026. No macro, syntax, notation, axiom, sorry.
-/
import Derived.Test.YtedmambdlkogdaaChecked
import GoSem.Claim
import GoSem.ClaimJoined
import GoSem.ClaimMapViews
import Derived.JoinedTies
import Derived.KernelRfl
namespace Go.Proofs.Ytedmambdlkogdaa
/- THE CELL 'sum', in the pinned program and in every row, IS THE sha256 OF THE DUMP (.gsa) THAT YtedmambdlkogdaaProg.lean LOADS. Nothing in Lean hashes anything: it is a label: what it is worth is what the hold of that sum in a sandbox is worth. -/
noncomputable def Try.pinned : Pinned := { name := "ytedmambdlkogdaa", sum := "ef10a63707994ba2d588828ea802cde8c9d29d0aa60efca262cc6a16797f3b4b", checked := Try.checked }
namespace Rows
def none {H : Type} : Left H := { results := [], args := [] }

/-- 'marquetrylaw02.SumsCrc': WHATEVER THE INPUT: true; the input reads as it did. -/
def sumsCrcSpec : ChangeSpec := { name := "sumsCrc", fn := fun _ => fun
  | [d] => { results := [.lit (.bool true)], args := [d] }
  | _ => none }
def sumsCrcRow : OpenClaim := { program := "ytedmambdlkogdaa", sum := "ef10a63707994ba2d588828ea802cde8c9d29d0aa60efca262cc6a16797f3b4b", func := "marquetry/marquetrylaw02.SumsCrc", spec := "sumsCrc", unfollowed := true, recurses := true, apart := false }
def SumsCrcSaid : Prop := sumsCrcRow.holds Try.pinned (OpenSpec.ofChange sumsCrcSpec)

/-- ITS FALSE NEIGHBOUR: 'it returns false'. Refute it at one input. -/
def sumsCrcWrong : ChangeSpec := { name := "sumsCrc", fn := fun _ => fun
  | [d] => { results := [.lit (.bool false)], args := [d] }
  | _ => none }
def SumsCrcWrongFalsely : Prop := sumsCrcRow.holds Try.pinned (OpenSpec.ofChange sumsCrcWrong)

/-- 'marquetrylaw02.SumsUpdate': WHATEVER THE INPUT: true; the input reads as it did. -/
def sumsUpdateSpec : ChangeSpec := { name := "sumsUpdate", fn := fun _ => fun
  | [d1, d2] => { results := [.lit (.bool true)], args := [d1, d2] }
  | _ => none }
def sumsUpdateRow : OpenClaim := { program := "ytedmambdlkogdaa", sum := "ef10a63707994ba2d588828ea802cde8c9d29d0aa60efca262cc6a16797f3b4b", func := "marquetry/marquetrylaw02.SumsUpdate", spec := "sumsUpdate", unfollowed := true, recurses := true, apart := false }
def SumsUpdateSaid : Prop := sumsUpdateRow.holds Try.pinned (OpenSpec.ofChange sumsUpdateSpec)

/-- ITS FALSE NEIGHBOUR: 'it returns false'. Refute it at one input. -/
def sumsUpdateWrong : ChangeSpec := { name := "sumsUpdate", fn := fun _ => fun
  | [d1, d2] => { results := [.lit (.bool false)], args := [d1, d2] }
  | _ => none }
def SumsUpdateWrongFalsely : Prop := sumsUpdateRow.holds Try.pinned (OpenSpec.ofChange sumsUpdateWrong)

/-- 'marquetrylaw02.SumsOf': WHATEVER THE INPUT: true; the input reads as it did. -/
def sumsOfSpec : ChangeSpec := { name := "sumsOf", fn := fun _ => fun
  | [d] => { results := [.lit (.bool true)], args := [d] }
  | _ => none }
def sumsOfRow : OpenClaim := { program := "ytedmambdlkogdaa", sum := "ef10a63707994ba2d588828ea802cde8c9d29d0aa60efca262cc6a16797f3b4b", func := "marquetry/marquetrylaw02.SumsOf", spec := "sumsOf", unfollowed := true, recurses := true, apart := false }
def SumsOfSaid : Prop := sumsOfRow.holds Try.pinned (OpenSpec.ofChange sumsOfSpec)

/-- ITS FALSE NEIGHBOUR: 'it returns false'. Refute it at one input. -/
def sumsOfWrong : ChangeSpec := { name := "sumsOf", fn := fun _ => fun
  | [d] => { results := [.lit (.bool false)], args := [d] }
  | _ => none }
def SumsOfWrongFalsely : Prop := sumsOfRow.holds Try.pinned (OpenSpec.ofChange sumsOfWrong)

/-- 'marquetrylaw02.SumsJoin': WHATEVER THE INPUT: true; the input reads as it did. -/
def sumsJoinSpec : ChangeSpec := { name := "sumsJoin", fn := fun _ => fun
  | [d1, d2] => { results := [.lit (.bool true)], args := [d1, d2] }
  | _ => none }
def sumsJoinRow : OpenClaim := { program := "ytedmambdlkogdaa", sum := "ef10a63707994ba2d588828ea802cde8c9d29d0aa60efca262cc6a16797f3b4b", func := "marquetry/marquetrylaw02.SumsJoin", spec := "sumsJoin", unfollowed := true, recurses := true, apart := false }
def SumsJoinSaid : Prop := sumsJoinRow.holds Try.pinned (OpenSpec.ofChange sumsJoinSpec)

/-- ITS FALSE NEIGHBOUR: 'it returns false'. Refute it at one input. -/
def sumsJoinWrong : ChangeSpec := { name := "sumsJoin", fn := fun _ => fun
  | [d1, d2] => { results := [.lit (.bool false)], args := [d1, d2] }
  | _ => none }
def SumsJoinWrongFalsely : Prop := sumsJoinRow.holds Try.pinned (OpenSpec.ofChange sumsJoinWrong)

/-- 'marquetrylaw02.SumsTurned': WHATEVER THE INPUT: true; the input reads as it did. -/
def sumsTurnedSpec : ChangeSpec := { name := "sumsTurned", fn := fun _ => fun
  | [d1, d2, d3] => { results := [.lit (.bool true)], args := [d1, d2, d3] }
  | _ => none }
def sumsTurnedRow : OpenClaim := { program := "ytedmambdlkogdaa", sum := "ef10a63707994ba2d588828ea802cde8c9d29d0aa60efca262cc6a16797f3b4b", func := "marquetry/marquetrylaw02.SumsTurned", spec := "sumsTurned", unfollowed := true, recurses := true, apart := false }
def SumsTurnedSaid : Prop := sumsTurnedRow.holds Try.pinned (OpenSpec.ofChange sumsTurnedSpec)

/-- ITS FALSE NEIGHBOUR: 'it returns false'. Refute it at one input. -/
def sumsTurnedWrong : ChangeSpec := { name := "sumsTurned", fn := fun _ => fun
  | [d1, d2, d3] => { results := [.lit (.bool false)], args := [d1, d2, d3] }
  | _ => none }
def SumsTurnedWrongFalsely : Prop := sumsTurnedRow.holds Try.pinned (OpenSpec.ofChange sumsTurnedWrong)

/-- 'marquetrylaw02.SumsTexts': WHATEVER THE INPUT: true; the input reads as it did. -/
def sumsTextsSpec : ChangeSpec := { name := "sumsTexts", fn := fun _ => fun
  | [d] => { results := [.lit (.bool true)], args := [d] }
  | _ => none }
def sumsTextsRow : OpenClaim := { program := "ytedmambdlkogdaa", sum := "ef10a63707994ba2d588828ea802cde8c9d29d0aa60efca262cc6a16797f3b4b", func := "marquetry/marquetrylaw02.SumsTexts", spec := "sumsTexts", unfollowed := true, recurses := true, apart := false }
def SumsTextsSaid : Prop := sumsTextsRow.holds Try.pinned (OpenSpec.ofChange sumsTextsSpec)

/-- ITS FALSE NEIGHBOUR: 'it returns false'. Refute it at one input. -/
def sumsTextsWrong : ChangeSpec := { name := "sumsTexts", fn := fun _ => fun
  | [d] => { results := [.lit (.bool false)], args := [d] }
  | _ => none }
def SumsTextsWrongFalsely : Prop := sumsTextsRow.holds Try.pinned (OpenSpec.ofChange sumsTextsWrong)

/-- 'marquetrylaw02.SumsRest': WHATEVER THE INPUT: true; the input reads as it did. -/
def sumsRestSpec : ChangeSpec := { name := "sumsRest", fn := fun _ => fun
  | [d] => { results := [.lit (.bool true)], args := [d] }
  | _ => none }
def sumsRestRow : OpenClaim := { program := "ytedmambdlkogdaa", sum := "ef10a63707994ba2d588828ea802cde8c9d29d0aa60efca262cc6a16797f3b4b", func := "marquetry/marquetrylaw02.SumsRest", spec := "sumsRest", unfollowed := true, recurses := true, apart := false }
def SumsRestSaid : Prop := sumsRestRow.holds Try.pinned (OpenSpec.ofChange sumsRestSpec)

/-- ITS FALSE NEIGHBOUR: 'it returns false'. Refute it at one input. -/
def sumsRestWrong : ChangeSpec := { name := "sumsRest", fn := fun _ => fun
  | [d] => { results := [.lit (.bool false)], args := [d] }
  | _ => none }
def SumsRestWrongFalsely : Prop := sumsRestRow.holds Try.pinned (OpenSpec.ofChange sumsRestWrong)

/- THE SECOND FORM. 'bulk': how many values and letters a reading holds, each counted each time it is reached (what is shared counts as often as it is met; a slice's spare places count too). A statement '..UptoSaid' is the law's where the arguments, and the package variables that the reading takes, are together of bulk at most 1048576: NARROWER than '..Said'. Prove '..Said' where nothing that the law and all that it calls make is longer than what came in: it says more and counts as full. Else prove '..UptoSaid'. A law counts once. -/
mutual
def uptoBulk {H : Type} : DataW H → Nat
  | .lit (.string bytes) => bytes.length + 1
  | .lit _ => 1
  | .nil => 1
  | .ptr d => uptoBulk d + 1
  | .slice elems spare => uptoBulkAll elems + uptoBulkAll spare + 1
  | .agg parts => uptoBulkAll parts + 1
  | .iface _ d => uptoBulk d + 1
  | .map entries => uptoBulkEntries entries + 1
  | .held _ => 1
def uptoBulkAll {H : Type} : List (DataW H) → Nat
  | [] => 0
  | d :: r => uptoBulk d + uptoBulkAll r
def uptoBulkEntries {H : Type} : List (Lit × DataW H) → Nat
  | [] => 0
  | x :: r => uptoBulkEntry x + uptoBulkEntries r
def uptoBulkEntry {H : Type} : Lit × DataW H → Nat
  | (.string bytes, d) => bytes.length + uptoBulk d + 1
  | (_, d) => uptoBulk d + 1
 end
def uptoSmall : (H : Type) → List (DataW H) → Bool := fun _ ds => decide (uptoBulkAll ds ≤ 1048576)
def OpenSpec.upto (s : _root_.Go.ChangeSpec) : _root_.Go.OpenSpec := { _root_.Go.OpenSpec.ofChange s with cond := some uptoSmall }

/-- 'marquetrylaw02.SumsCrc', WHERE WHAT IT READS IS OF BULK AT MOST 1048576: true; the input reads as it did. -/
def sumsCrcUptoRow : OpenClaim := { program := "ytedmambdlkogdaa", sum := "ef10a63707994ba2d588828ea802cde8c9d29d0aa60efca262cc6a16797f3b4b", func := "marquetry/marquetrylaw02.SumsCrc", spec := "sumsCrc", unfollowed := true, recurses := true, apart := false, narrowed := true }
def SumsCrcUptoSaid : Prop := sumsCrcUptoRow.holds Try.pinned (OpenSpec.upto sumsCrcSpec)

/-- 'marquetrylaw02.SumsUpdate', WHERE WHAT IT READS IS OF BULK AT MOST 1048576: true; the input reads as it did. -/
def sumsUpdateUptoRow : OpenClaim := { program := "ytedmambdlkogdaa", sum := "ef10a63707994ba2d588828ea802cde8c9d29d0aa60efca262cc6a16797f3b4b", func := "marquetry/marquetrylaw02.SumsUpdate", spec := "sumsUpdate", unfollowed := true, recurses := true, apart := false, narrowed := true }
def SumsUpdateUptoSaid : Prop := sumsUpdateUptoRow.holds Try.pinned (OpenSpec.upto sumsUpdateSpec)

/-- 'marquetrylaw02.SumsOf', WHERE WHAT IT READS IS OF BULK AT MOST 1048576: true; the input reads as it did. -/
def sumsOfUptoRow : OpenClaim := { program := "ytedmambdlkogdaa", sum := "ef10a63707994ba2d588828ea802cde8c9d29d0aa60efca262cc6a16797f3b4b", func := "marquetry/marquetrylaw02.SumsOf", spec := "sumsOf", unfollowed := true, recurses := true, apart := false, narrowed := true }
def SumsOfUptoSaid : Prop := sumsOfUptoRow.holds Try.pinned (OpenSpec.upto sumsOfSpec)

/-- 'marquetrylaw02.SumsJoin', WHERE WHAT IT READS IS OF BULK AT MOST 1048576: true; the input reads as it did. -/
def sumsJoinUptoRow : OpenClaim := { program := "ytedmambdlkogdaa", sum := "ef10a63707994ba2d588828ea802cde8c9d29d0aa60efca262cc6a16797f3b4b", func := "marquetry/marquetrylaw02.SumsJoin", spec := "sumsJoin", unfollowed := true, recurses := true, apart := false, narrowed := true }
def SumsJoinUptoSaid : Prop := sumsJoinUptoRow.holds Try.pinned (OpenSpec.upto sumsJoinSpec)

/-- 'marquetrylaw02.SumsTurned', WHERE WHAT IT READS IS OF BULK AT MOST 1048576: true; the input reads as it did. -/
def sumsTurnedUptoRow : OpenClaim := { program := "ytedmambdlkogdaa", sum := "ef10a63707994ba2d588828ea802cde8c9d29d0aa60efca262cc6a16797f3b4b", func := "marquetry/marquetrylaw02.SumsTurned", spec := "sumsTurned", unfollowed := true, recurses := true, apart := false, narrowed := true }
def SumsTurnedUptoSaid : Prop := sumsTurnedUptoRow.holds Try.pinned (OpenSpec.upto sumsTurnedSpec)

/-- 'marquetrylaw02.SumsTexts', WHERE WHAT IT READS IS OF BULK AT MOST 1048576: true; the input reads as it did. -/
def sumsTextsUptoRow : OpenClaim := { program := "ytedmambdlkogdaa", sum := "ef10a63707994ba2d588828ea802cde8c9d29d0aa60efca262cc6a16797f3b4b", func := "marquetry/marquetrylaw02.SumsTexts", spec := "sumsTexts", unfollowed := true, recurses := true, apart := false, narrowed := true }
def SumsTextsUptoSaid : Prop := sumsTextsUptoRow.holds Try.pinned (OpenSpec.upto sumsTextsSpec)

/-- 'marquetrylaw02.SumsRest', WHERE WHAT IT READS IS OF BULK AT MOST 1048576: true; the input reads as it did. -/
def sumsRestUptoRow : OpenClaim := { program := "ytedmambdlkogdaa", sum := "ef10a63707994ba2d588828ea802cde8c9d29d0aa60efca262cc6a16797f3b4b", func := "marquetry/marquetrylaw02.SumsRest", spec := "sumsRest", unfollowed := true, recurses := true, apart := false, narrowed := true }
def SumsRestUptoSaid : Prop := sumsRestUptoRow.holds Try.pinned (OpenSpec.upto sumsRestSpec)

end Rows
end Go.Proofs.Ytedmambdlkogdaa
