/-
  NARROWER THAN 'FOR EVERY INPUT', by the rows' own cells (each row's printed sentence says how): SchemaCheck: loops, laid · SchemaTree: laid · SchemaFlat: loops, laid · SchemaLeaves: loops, laid · SchemaProject: loops, laid.
  DERIVED. THE GIVEN ROWS OF THIS SEAT. 5 by the template 'for every input the law returns true; each argument reads behind the call as it read before'; 0 by the template 'total and deterministic' (their statements: YtjdjlccdidfgoaaDoorTotals.lean).
  GIVEN WITH THE SEED: the statements are not yours to turn. If you find one false, say at which input.
  Laid BY PROGRAM, IN A SANDBOX (cutbox-rows.mjs): the forced cells as the released guide's own fill.sh prints them over the translation 172bac4ffcc9f569… (all of the seat's roots in one cut). By AI agents, Wed Nov 11 2026. No macro, syntax, notation, axiom, sorry.
-/
import Derived.Test.YtjdjlccdidfgoaaDoorChecked
import GoSem.PinnedTables
import GoSem.Claim
import GoSem.ClaimJoined
import GoSem.ClaimMapViews
import Derived.JoinedTies
import Derived.KernelRfl
namespace Go.Proofs.YtjdjlccdidfgoaaDoor
/- THE CELL 'sum', in the pinned program and in every row, IS THE sha256 OF THE DUMP (.gsa) THAT YtjdjlccdidfgoaaDoorProg.lean LOADS. Nothing in Lean hashes anything: it is a label: what it is worth is what the hold of that sum in a sandbox is worth. -/
noncomputable def Tryd.pinned : Pinned := { name := "ytjdjlccdidfgoaadoor", sum := "172bac4ffcc9f5691c4d491a81561ad927e4d908461086e088cff95cdf9f2183", checked := Tryd.checked }
namespace Rows
def none {H : Type} : Left H := { results := [], args := [] }

/- WHAT THE LISTED PACKAGE-LEVEL VARIABLES READ AS WHEN THE CALL BEGINS. Each datum BY PROGRAM (the guide's laid-datum.mjs) off the statement by which the dump's own 'gosem.cut.vars' lays the variable. In a bare row this is a premise. The card (YtjdjlccdidfgoaaDoorCards.lean) ties it to the program's text. -/
def laid_unicode_utf8_acceptRanges {H : Type} : DataW H := .agg [.agg [.lit (.int .u8 128), .lit (.int .u8 191)], .agg [.lit (.int .u8 160), .lit (.int .u8 191)], .agg [.lit (.int .u8 128), .lit (.int .u8 159)], .agg [.lit (.int .u8 144), .lit (.int .u8 191)], .agg [.lit (.int .u8 128), .lit (.int .u8 143)], .agg [.lit (.int .u8 0), .lit (.int .u8 0)], .agg [.lit (.int .u8 0), .lit (.int .u8 0)], .agg [.lit (.int .u8 0), .lit (.int .u8 0)], .agg [.lit (.int .u8 0), .lit (.int .u8 0)], .agg [.lit (.int .u8 0), .lit (.int .u8 0)], .agg [.lit (.int .u8 0), .lit (.int .u8 0)], .agg [.lit (.int .u8 0), .lit (.int .u8 0)], .agg [.lit (.int .u8 0), .lit (.int .u8 0)], .agg [.lit (.int .u8 0), .lit (.int .u8 0)], .agg [.lit (.int .u8 0), .lit (.int .u8 0)], .agg [.lit (.int .u8 0), .lit (.int .u8 0)]]
/-- One of Go's own tables, pinned by name: the form's constant. -/
def laid_unicode_utf8_first : DataW Unit := Go.Pinned.utf8First

/-- 'marquetrylaw16.SchemaCheck': WHATEVER THE INPUT: true; the input reads as it did. -/
def schemaCheckSpec : ChangeSpec := { name := "schemaCheck", fn := fun _ => fun
  | [d1, d2] => { results := [.lit (.bool true)], args := [d1, d2] }
  | _ => none }
def schemaCheckRow : OpenClaim := { program := "ytjdjlccdidfgoaadoor", sum := "172bac4ffcc9f5691c4d491a81561ad927e4d908461086e088cff95cdf9f2183", func := "marquetry/marquetrylaw16.SchemaCheck", spec := "schemaCheck", unfollowed := true, recurses := true, named := ["unicode/utf8.first", "unicode/utf8.acceptRanges"], loops := true, apart := false, laid := [("unicode/utf8.acceptRanges", laid_unicode_utf8_acceptRanges), ("unicode/utf8.first", laid_unicode_utf8_first)] }
def SchemaCheckSaid : Prop := schemaCheckRow.holds Tryd.pinned (OpenSpec.ofChange schemaCheckSpec)

/-- ITS FALSE NEIGHBOUR: 'it returns false'. Refute it at one input. -/
def schemaCheckWrong : ChangeSpec := { name := "schemaCheck", fn := fun _ => fun
  | [d1, d2] => { results := [.lit (.bool false)], args := [d1, d2] }
  | _ => none }
def SchemaCheckWrongFalsely : Prop := schemaCheckRow.holds Tryd.pinned (OpenSpec.ofChange schemaCheckWrong)

/-- 'marquetrylaw16.SchemaTree': WHATEVER THE INPUT: true; the input reads as it did. -/
def schemaTreeSpec : ChangeSpec := { name := "schemaTree", fn := fun _ => fun
  | [d] => { results := [.lit (.bool true)], args := [d] }
  | _ => none }
def schemaTreeRow : OpenClaim := { program := "ytjdjlccdidfgoaadoor", sum := "172bac4ffcc9f5691c4d491a81561ad927e4d908461086e088cff95cdf9f2183", func := "marquetry/marquetrylaw16.SchemaTree", spec := "schemaTree", unfollowed := true, recurses := true, named := ["unicode/utf8.first", "unicode/utf8.acceptRanges"], apart := false, laid := [("unicode/utf8.acceptRanges", laid_unicode_utf8_acceptRanges), ("unicode/utf8.first", laid_unicode_utf8_first)] }
def SchemaTreeSaid : Prop := schemaTreeRow.holds Tryd.pinned (OpenSpec.ofChange schemaTreeSpec)

/-- ITS FALSE NEIGHBOUR: 'it returns false'. Refute it at one input. -/
def schemaTreeWrong : ChangeSpec := { name := "schemaTree", fn := fun _ => fun
  | [d] => { results := [.lit (.bool false)], args := [d] }
  | _ => none }
def SchemaTreeWrongFalsely : Prop := schemaTreeRow.holds Tryd.pinned (OpenSpec.ofChange schemaTreeWrong)

/-- 'marquetrylaw16.SchemaFlat': WHATEVER THE INPUT: true; the input reads as it did. -/
def schemaFlatSpec : ChangeSpec := { name := "schemaFlat", fn := fun _ => fun
  | [d] => { results := [.lit (.bool true)], args := [d] }
  | _ => none }
def schemaFlatRow : OpenClaim := { program := "ytjdjlccdidfgoaadoor", sum := "172bac4ffcc9f5691c4d491a81561ad927e4d908461086e088cff95cdf9f2183", func := "marquetry/marquetrylaw16.SchemaFlat", spec := "schemaFlat", unfollowed := true, recurses := true, named := ["unicode/utf8.first", "unicode/utf8.acceptRanges"], loops := true, apart := false, laid := [("unicode/utf8.acceptRanges", laid_unicode_utf8_acceptRanges), ("unicode/utf8.first", laid_unicode_utf8_first)] }
def SchemaFlatSaid : Prop := schemaFlatRow.holds Tryd.pinned (OpenSpec.ofChange schemaFlatSpec)

/-- ITS FALSE NEIGHBOUR: 'it returns false'. Refute it at one input. -/
def schemaFlatWrong : ChangeSpec := { name := "schemaFlat", fn := fun _ => fun
  | [d] => { results := [.lit (.bool false)], args := [d] }
  | _ => none }
def SchemaFlatWrongFalsely : Prop := schemaFlatRow.holds Tryd.pinned (OpenSpec.ofChange schemaFlatWrong)

/-- 'marquetrylaw16.SchemaLeaves': WHATEVER THE INPUT: true; the input reads as it did. -/
def schemaLeavesSpec : ChangeSpec := { name := "schemaLeaves", fn := fun _ => fun
  | [d1, d2] => { results := [.lit (.bool true)], args := [d1, d2] }
  | _ => none }
def schemaLeavesRow : OpenClaim := { program := "ytjdjlccdidfgoaadoor", sum := "172bac4ffcc9f5691c4d491a81561ad927e4d908461086e088cff95cdf9f2183", func := "marquetry/marquetrylaw16.SchemaLeaves", spec := "schemaLeaves", unfollowed := true, recurses := true, named := ["unicode/utf8.first", "unicode/utf8.acceptRanges"], loops := true, apart := false, laid := [("unicode/utf8.acceptRanges", laid_unicode_utf8_acceptRanges), ("unicode/utf8.first", laid_unicode_utf8_first)] }
def SchemaLeavesSaid : Prop := schemaLeavesRow.holds Tryd.pinned (OpenSpec.ofChange schemaLeavesSpec)

/-- ITS FALSE NEIGHBOUR: 'it returns false'. Refute it at one input. -/
def schemaLeavesWrong : ChangeSpec := { name := "schemaLeaves", fn := fun _ => fun
  | [d1, d2] => { results := [.lit (.bool false)], args := [d1, d2] }
  | _ => none }
def SchemaLeavesWrongFalsely : Prop := schemaLeavesRow.holds Tryd.pinned (OpenSpec.ofChange schemaLeavesWrong)

/-- 'marquetrylaw16.SchemaProject': WHATEVER THE INPUT: true; the input reads as it did. -/
def schemaProjectSpec : ChangeSpec := { name := "schemaProject", fn := fun _ => fun
  | [d1, d2] => { results := [.lit (.bool true)], args := [d1, d2] }
  | _ => none }
def schemaProjectRow : OpenClaim := { program := "ytjdjlccdidfgoaadoor", sum := "172bac4ffcc9f5691c4d491a81561ad927e4d908461086e088cff95cdf9f2183", func := "marquetry/marquetrylaw16.SchemaProject", spec := "schemaProject", unfollowed := true, recurses := true, named := ["unicode/utf8.first", "unicode/utf8.acceptRanges"], loops := true, apart := false, laid := [("unicode/utf8.acceptRanges", laid_unicode_utf8_acceptRanges), ("unicode/utf8.first", laid_unicode_utf8_first)] }
def SchemaProjectSaid : Prop := schemaProjectRow.holds Tryd.pinned (OpenSpec.ofChange schemaProjectSpec)

/-- ITS FALSE NEIGHBOUR: 'it returns false'. Refute it at one input. -/
def schemaProjectWrong : ChangeSpec := { name := "schemaProject", fn := fun _ => fun
  | [d1, d2] => { results := [.lit (.bool false)], args := [d1, d2] }
  | _ => none }
def SchemaProjectWrongFalsely : Prop := schemaProjectRow.holds Tryd.pinned (OpenSpec.ofChange schemaProjectWrong)

/- THE SECOND FORM. 'bulk': how many values and letters a reading holds, each counted each time it is reached (what is shared counts as often as it is met; a slice's spare places count too). A statement '..UptoSaid' is the law's where the arguments, and the package variables that the reading takes, are together of bulk at most 1048576: NARROWER than '..Said'. Prove '..Said' where nothing that the law and all that it calls make is longer than what came in: it says more and counts as full. Else prove '..UptoSaid'. A law counts once. -/
mutual
def uptoBulk {H : Type} : DataW H → Nat
  | .lit (.string bytes) => bytes.length + 1
  | .lit _ => 1
  | .nil => 1
  | .ptr d => uptoBulk d + 1
  | .slice elems spare => uptoBulkAll elems + uptoBulkAll spare + 1
  | .agg parts => uptoBulkAll parts + 1
  | .iface _ d => uptoBulk d + 1
  | .map entries => uptoBulkEntries entries + 1
  | .held _ => 1
def uptoBulkAll {H : Type} : List (DataW H) → Nat
  | [] => 0
  | d :: r => uptoBulk d + uptoBulkAll r
def uptoBulkEntries {H : Type} : List (Lit × DataW H) → Nat
  | [] => 0
  | x :: r => uptoBulkEntry x + uptoBulkEntries r
def uptoBulkEntry {H : Type} : Lit × DataW H → Nat
  | (.string bytes, d) => bytes.length + uptoBulk d + 1
  | (_, d) => uptoBulk d + 1
 end
def uptoSmall : (H : Type) → List (DataW H) → Bool := fun _ ds => decide (uptoBulkAll ds ≤ 1048576)
def OpenSpec.upto (s : _root_.Go.ChangeSpec) : _root_.Go.OpenSpec := { _root_.Go.OpenSpec.ofChange s with cond := some uptoSmall }

/-- 'marquetrylaw16.SchemaCheck', WHERE WHAT IT READS IS OF BULK AT MOST 1048576: true; the input reads as it did. -/
def schemaCheckUptoRow : OpenClaim := { program := "ytjdjlccdidfgoaadoor", sum := "172bac4ffcc9f5691c4d491a81561ad927e4d908461086e088cff95cdf9f2183", func := "marquetry/marquetrylaw16.SchemaCheck", spec := "schemaCheck", unfollowed := true, recurses := true, named := ["unicode/utf8.first", "unicode/utf8.acceptRanges"], loops := true, apart := false, laid := [("unicode/utf8.acceptRanges", laid_unicode_utf8_acceptRanges), ("unicode/utf8.first", laid_unicode_utf8_first)], narrowed := true }
def SchemaCheckUptoSaid : Prop := schemaCheckUptoRow.holds Tryd.pinned (OpenSpec.upto schemaCheckSpec)

/-- 'marquetrylaw16.SchemaTree', WHERE WHAT IT READS IS OF BULK AT MOST 1048576: true; the input reads as it did. -/
def schemaTreeUptoRow : OpenClaim := { program := "ytjdjlccdidfgoaadoor", sum := "172bac4ffcc9f5691c4d491a81561ad927e4d908461086e088cff95cdf9f2183", func := "marquetry/marquetrylaw16.SchemaTree", spec := "schemaTree", unfollowed := true, recurses := true, named := ["unicode/utf8.first", "unicode/utf8.acceptRanges"], apart := false, laid := [("unicode/utf8.acceptRanges", laid_unicode_utf8_acceptRanges), ("unicode/utf8.first", laid_unicode_utf8_first)], narrowed := true }
def SchemaTreeUptoSaid : Prop := schemaTreeUptoRow.holds Tryd.pinned (OpenSpec.upto schemaTreeSpec)

/-- 'marquetrylaw16.SchemaFlat', WHERE WHAT IT READS IS OF BULK AT MOST 1048576: true; the input reads as it did. -/
def schemaFlatUptoRow : OpenClaim := { program := "ytjdjlccdidfgoaadoor", sum := "172bac4ffcc9f5691c4d491a81561ad927e4d908461086e088cff95cdf9f2183", func := "marquetry/marquetrylaw16.SchemaFlat", spec := "schemaFlat", unfollowed := true, recurses := true, named := ["unicode/utf8.first", "unicode/utf8.acceptRanges"], loops := true, apart := false, laid := [("unicode/utf8.acceptRanges", laid_unicode_utf8_acceptRanges), ("unicode/utf8.first", laid_unicode_utf8_first)], narrowed := true }
def SchemaFlatUptoSaid : Prop := schemaFlatUptoRow.holds Tryd.pinned (OpenSpec.upto schemaFlatSpec)

/-- 'marquetrylaw16.SchemaLeaves', WHERE WHAT IT READS IS OF BULK AT MOST 1048576: true; the input reads as it did. -/
def schemaLeavesUptoRow : OpenClaim := { program := "ytjdjlccdidfgoaadoor", sum := "172bac4ffcc9f5691c4d491a81561ad927e4d908461086e088cff95cdf9f2183", func := "marquetry/marquetrylaw16.SchemaLeaves", spec := "schemaLeaves", unfollowed := true, recurses := true, named := ["unicode/utf8.first", "unicode/utf8.acceptRanges"], loops := true, apart := false, laid := [("unicode/utf8.acceptRanges", laid_unicode_utf8_acceptRanges), ("unicode/utf8.first", laid_unicode_utf8_first)], narrowed := true }
def SchemaLeavesUptoSaid : Prop := schemaLeavesUptoRow.holds Tryd.pinned (OpenSpec.upto schemaLeavesSpec)

/-- 'marquetrylaw16.SchemaProject', WHERE WHAT IT READS IS OF BULK AT MOST 1048576: true; the input reads as it did. -/
def schemaProjectUptoRow : OpenClaim := { program := "ytjdjlccdidfgoaadoor", sum := "172bac4ffcc9f5691c4d491a81561ad927e4d908461086e088cff95cdf9f2183", func := "marquetry/marquetrylaw16.SchemaProject", spec := "schemaProject", unfollowed := true, recurses := true, named := ["unicode/utf8.first", "unicode/utf8.acceptRanges"], loops := true, apart := false, laid := [("unicode/utf8.acceptRanges", laid_unicode_utf8_acceptRanges), ("unicode/utf8.first", laid_unicode_utf8_first)], narrowed := true }
def SchemaProjectUptoSaid : Prop := schemaProjectUptoRow.holds Tryd.pinned (OpenSpec.upto schemaProjectSpec)

end Rows
end Go.Proofs.YtjdjlccdidfgoaaDoor
