/-
  No cell of these rows narrows 'for every input' (looked for: loops, veiled, ifaces, maps, wideKeys, modest, calm, conditions, laid).
  DERIVED. THE GIVEN ROWS OF THIS SEAT. 7 by the template 'for every input the law returns true; each argument reads behind the call as it read before'; 0 by the template 'total and deterministic' (their statements: YtidhenogfblolaaTotals.lean).
  GIVEN WITH THE SEED: the statements are not yours to turn. If you find one false, say at which input.
  Laid BY PROGRAM, IN A SANDBOX (cutbox-rows.mjs): the forced cells as the released guide's own fill.sh prints them over the translation 3203ede040305c0f… (all of the seat's roots in one cut). By AI agents, Wed Nov 11 2026. No macro, syntax, notation, axiom, sorry.
-/
import Derived.Test.YtidhenogfblolaaChecked
import GoSem.Claim
import GoSem.ClaimJoined
import GoSem.ClaimMapViews
import Derived.JoinedTies
import Derived.KernelRfl
namespace Go.Proofs.Ytidhenogfblolaa
/- THE CELL 'sum', in the pinned program and in every row, IS THE sha256 OF THE DUMP (.gsa) THAT YtidhenogfblolaaProg.lean LOADS. Nothing in Lean hashes anything: it is a label: what it is worth is what the hold of that sum in a sandbox is worth. -/
noncomputable def Try.pinned : Pinned := { name := "ytidhenogfblolaa", sum := "3203ede040305c0fa4dcc43af1c93ef74b629340cf374010aa7b0b3ae12bb36b", checked := Try.checked }
namespace Rows
def none {H : Type} : Left H := { results := [], args := [] }

/-- 'marquetrylaw09.DatumCheck': WHATEVER THE INPUT: true; the input reads as it did. -/
def datumCheckSpec : ChangeSpec := { name := "datumCheck", fn := fun _ => fun
  | [d] => { results := [.lit (.bool true)], args := [d] }
  | _ => none }
def datumCheckRow : OpenClaim := { program := "ytidhenogfblolaa", sum := "3203ede040305c0fa4dcc43af1c93ef74b629340cf374010aa7b0b3ae12bb36b", func := "marquetry/marquetrylaw09.DatumCheck", spec := "datumCheck", apart := false }
def DatumCheckSaid : Prop := datumCheckRow.holds Try.pinned (OpenSpec.ofChange datumCheckSpec)

/-- ITS FALSE NEIGHBOUR: 'it returns false'. Refute it at one input. -/
def datumCheckWrong : ChangeSpec := { name := "datumCheck", fn := fun _ => fun
  | [d] => { results := [.lit (.bool false)], args := [d] }
  | _ => none }
def DatumCheckWrongFalsely : Prop := datumCheckRow.holds Try.pinned (OpenSpec.ofChange datumCheckWrong)

/-- 'marquetrylaw09.DatumSame': WHATEVER THE INPUT: true; the input reads as it did. -/
def datumSameSpec : ChangeSpec := { name := "datumSame", fn := fun _ => fun
  | [d1, d2] => { results := [.lit (.bool true)], args := [d1, d2] }
  | _ => none }
def datumSameRow : OpenClaim := { program := "ytidhenogfblolaa", sum := "3203ede040305c0fa4dcc43af1c93ef74b629340cf374010aa7b0b3ae12bb36b", func := "marquetry/marquetrylaw09.DatumSame", spec := "datumSame", unfollowed := true, recurses := true, apart := false }
def DatumSameSaid : Prop := datumSameRow.holds Try.pinned (OpenSpec.ofChange datumSameSpec)

/-- ITS FALSE NEIGHBOUR: 'it returns false'. Refute it at one input. -/
def datumSameWrong : ChangeSpec := { name := "datumSame", fn := fun _ => fun
  | [d1, d2] => { results := [.lit (.bool false)], args := [d1, d2] }
  | _ => none }
def DatumSameWrongFalsely : Prop := datumSameRow.holds Try.pinned (OpenSpec.ofChange datumSameWrong)

/-- 'marquetrylaw09.DatumMake': WHATEVER THE INPUT: true; the input reads as it did. -/
def datumMakeSpec : ChangeSpec := { name := "datumMake", fn := fun _ => fun
  | [d1, d2, d3] => { results := [.lit (.bool true)], args := [d1, d2, d3] }
  | _ => none }
def datumMakeRow : OpenClaim := { program := "ytidhenogfblolaa", sum := "3203ede040305c0fa4dcc43af1c93ef74b629340cf374010aa7b0b3ae12bb36b", func := "marquetry/marquetrylaw09.DatumMake", spec := "datumMake", inPlace := ["math.Float64frombits", "math.Float64bits", "math.Float32frombits", "math.Float32bits"], apart := false }
def DatumMakeSaid : Prop := datumMakeRow.holds Try.pinned (OpenSpec.ofChange datumMakeSpec)

/-- ITS FALSE NEIGHBOUR: 'it returns false'. Refute it at one input. -/
def datumMakeWrong : ChangeSpec := { name := "datumMake", fn := fun _ => fun
  | [d1, d2, d3] => { results := [.lit (.bool false)], args := [d1, d2, d3] }
  | _ => none }
def DatumMakeWrongFalsely : Prop := datumMakeRow.holds Try.pinned (OpenSpec.ofChange datumMakeWrong)

/-- 'marquetrylaw09.DatumOf': WHATEVER THE INPUT: true; the input reads as it did. -/
def datumOfSpec : ChangeSpec := { name := "datumOf", fn := fun _ => fun
  | [d1, d2] => { results := [.lit (.bool true)], args := [d1, d2] }
  | _ => none }
def datumOfRow : OpenClaim := { program := "ytidhenogfblolaa", sum := "3203ede040305c0fa4dcc43af1c93ef74b629340cf374010aa7b0b3ae12bb36b", func := "marquetry/marquetrylaw09.DatumOf", spec := "datumOf", apart := false }
def DatumOfSaid : Prop := datumOfRow.holds Try.pinned (OpenSpec.ofChange datumOfSpec)

/-- ITS FALSE NEIGHBOUR: 'it returns false'. Refute it at one input. -/
def datumOfWrong : ChangeSpec := { name := "datumOf", fn := fun _ => fun
  | [d1, d2] => { results := [.lit (.bool false)], args := [d1, d2] }
  | _ => none }
def DatumOfWrongFalsely : Prop := datumOfRow.holds Try.pinned (OpenSpec.ofChange datumOfWrong)

/-- 'marquetrylaw09.DatumReal': WHATEVER THE INPUT: true; the input reads as it did. -/
def datumRealSpec : ChangeSpec := { name := "datumReal", fn := fun _ => fun
  | [d] => { results := [.lit (.bool true)], args := [d] }
  | _ => none }
def datumRealRow : OpenClaim := { program := "ytidhenogfblolaa", sum := "3203ede040305c0fa4dcc43af1c93ef74b629340cf374010aa7b0b3ae12bb36b", func := "marquetry/marquetrylaw09.DatumReal", spec := "datumReal", inPlace := ["math.Float32frombits", "math.Float64frombits", "math.Float64bits"], apart := false }
def DatumRealSaid : Prop := datumRealRow.holds Try.pinned (OpenSpec.ofChange datumRealSpec)

/-- ITS FALSE NEIGHBOUR: 'it returns false'. Refute it at one input. -/
def datumRealWrong : ChangeSpec := { name := "datumReal", fn := fun _ => fun
  | [d] => { results := [.lit (.bool false)], args := [d] }
  | _ => none }
def DatumRealWrongFalsely : Prop := datumRealRow.holds Try.pinned (OpenSpec.ofChange datumRealWrong)

/-- 'marquetrylaw09.DatumCompare': WHATEVER THE INPUT: true; the input reads as it did. -/
def datumCompareSpec : ChangeSpec := { name := "datumCompare", fn := fun _ => fun
  | [d1, d2] => { results := [.lit (.bool true)], args := [d1, d2] }
  | _ => none }
def datumCompareRow : OpenClaim := { program := "ytidhenogfblolaa", sum := "3203ede040305c0fa4dcc43af1c93ef74b629340cf374010aa7b0b3ae12bb36b", func := "marquetry/marquetrylaw09.DatumCompare", spec := "datumCompare", inPlace := ["math.Float32frombits", "math.Float64frombits"], apart := false }
def DatumCompareSaid : Prop := datumCompareRow.holds Try.pinned (OpenSpec.ofChange datumCompareSpec)

/-- ITS FALSE NEIGHBOUR: 'it returns false'. Refute it at one input. -/
def datumCompareWrong : ChangeSpec := { name := "datumCompare", fn := fun _ => fun
  | [d1, d2] => { results := [.lit (.bool false)], args := [d1, d2] }
  | _ => none }
def DatumCompareWrongFalsely : Prop := datumCompareRow.holds Try.pinned (OpenSpec.ofChange datumCompareWrong)

/-- 'marquetrylaw09.DatumOrder': WHATEVER THE INPUT: true; the input reads as it did. -/
def datumOrderSpec : ChangeSpec := { name := "datumOrder", fn := fun _ => fun
  | [d1, d2, d3] => { results := [.lit (.bool true)], args := [d1, d2, d3] }
  | _ => none }
def datumOrderRow : OpenClaim := { program := "ytidhenogfblolaa", sum := "3203ede040305c0fa4dcc43af1c93ef74b629340cf374010aa7b0b3ae12bb36b", func := "marquetry/marquetrylaw09.DatumOrder", spec := "datumOrder", inPlace := ["math.Float32frombits", "math.Float64frombits"], apart := false }
def DatumOrderSaid : Prop := datumOrderRow.holds Try.pinned (OpenSpec.ofChange datumOrderSpec)

/-- ITS FALSE NEIGHBOUR: 'it returns false'. Refute it at one input. -/
def datumOrderWrong : ChangeSpec := { name := "datumOrder", fn := fun _ => fun
  | [d1, d2, d3] => { results := [.lit (.bool false)], args := [d1, d2, d3] }
  | _ => none }
def DatumOrderWrongFalsely : Prop := datumOrderRow.holds Try.pinned (OpenSpec.ofChange datumOrderWrong)

/- THE SECOND FORM. 'bulk': how many values and letters a reading holds, each counted each time it is reached (what is shared counts as often as it is met; a slice's spare places count too). A statement '..UptoSaid' is the law's where the arguments, and the package variables that the reading takes, are together of bulk at most 1048576: NARROWER than '..Said'. Prove '..Said' where nothing that the law and all that it calls make is longer than what came in: it says more and counts as full. Else prove '..UptoSaid'. A law counts once. -/
mutual
def uptoBulk {H : Type} : DataW H → Nat
  | .lit (.string bytes) => bytes.length + 1
  | .lit _ => 1
  | .nil => 1
  | .ptr d => uptoBulk d + 1
  | .slice elems spare => uptoBulkAll elems + uptoBulkAll spare + 1
  | .agg parts => uptoBulkAll parts + 1
  | .iface _ d => uptoBulk d + 1
  | .map entries => uptoBulkEntries entries + 1
  | .held _ => 1
def uptoBulkAll {H : Type} : List (DataW H) → Nat
  | [] => 0
  | d :: r => uptoBulk d + uptoBulkAll r
def uptoBulkEntries {H : Type} : List (Lit × DataW H) → Nat
  | [] => 0
  | x :: r => uptoBulkEntry x + uptoBulkEntries r
def uptoBulkEntry {H : Type} : Lit × DataW H → Nat
  | (.string bytes, d) => bytes.length + uptoBulk d + 1
  | (_, d) => uptoBulk d + 1
 end
def uptoSmall : (H : Type) → List (DataW H) → Bool := fun _ ds => decide (uptoBulkAll ds ≤ 1048576)
def OpenSpec.upto (s : _root_.Go.ChangeSpec) : _root_.Go.OpenSpec := { _root_.Go.OpenSpec.ofChange s with cond := some uptoSmall }

/-- 'marquetrylaw09.DatumCheck', WHERE WHAT IT READS IS OF BULK AT MOST 1048576: true; the input reads as it did. -/
def datumCheckUptoRow : OpenClaim := { program := "ytidhenogfblolaa", sum := "3203ede040305c0fa4dcc43af1c93ef74b629340cf374010aa7b0b3ae12bb36b", func := "marquetry/marquetrylaw09.DatumCheck", spec := "datumCheck", apart := false, narrowed := true }
def DatumCheckUptoSaid : Prop := datumCheckUptoRow.holds Try.pinned (OpenSpec.upto datumCheckSpec)

/-- 'marquetrylaw09.DatumSame', WHERE WHAT IT READS IS OF BULK AT MOST 1048576: true; the input reads as it did. -/
def datumSameUptoRow : OpenClaim := { program := "ytidhenogfblolaa", sum := "3203ede040305c0fa4dcc43af1c93ef74b629340cf374010aa7b0b3ae12bb36b", func := "marquetry/marquetrylaw09.DatumSame", spec := "datumSame", unfollowed := true, recurses := true, apart := false, narrowed := true }
def DatumSameUptoSaid : Prop := datumSameUptoRow.holds Try.pinned (OpenSpec.upto datumSameSpec)

/-- 'marquetrylaw09.DatumMake', WHERE WHAT IT READS IS OF BULK AT MOST 1048576: true; the input reads as it did. -/
def datumMakeUptoRow : OpenClaim := { program := "ytidhenogfblolaa", sum := "3203ede040305c0fa4dcc43af1c93ef74b629340cf374010aa7b0b3ae12bb36b", func := "marquetry/marquetrylaw09.DatumMake", spec := "datumMake", inPlace := ["math.Float64frombits", "math.Float64bits", "math.Float32frombits", "math.Float32bits"], apart := false, narrowed := true }
def DatumMakeUptoSaid : Prop := datumMakeUptoRow.holds Try.pinned (OpenSpec.upto datumMakeSpec)

/-- 'marquetrylaw09.DatumOf', WHERE WHAT IT READS IS OF BULK AT MOST 1048576: true; the input reads as it did. -/
def datumOfUptoRow : OpenClaim := { program := "ytidhenogfblolaa", sum := "3203ede040305c0fa4dcc43af1c93ef74b629340cf374010aa7b0b3ae12bb36b", func := "marquetry/marquetrylaw09.DatumOf", spec := "datumOf", apart := false, narrowed := true }
def DatumOfUptoSaid : Prop := datumOfUptoRow.holds Try.pinned (OpenSpec.upto datumOfSpec)

/-- 'marquetrylaw09.DatumReal', WHERE WHAT IT READS IS OF BULK AT MOST 1048576: true; the input reads as it did. -/
def datumRealUptoRow : OpenClaim := { program := "ytidhenogfblolaa", sum := "3203ede040305c0fa4dcc43af1c93ef74b629340cf374010aa7b0b3ae12bb36b", func := "marquetry/marquetrylaw09.DatumReal", spec := "datumReal", inPlace := ["math.Float32frombits", "math.Float64frombits", "math.Float64bits"], apart := false, narrowed := true }
def DatumRealUptoSaid : Prop := datumRealUptoRow.holds Try.pinned (OpenSpec.upto datumRealSpec)

/-- 'marquetrylaw09.DatumCompare', WHERE WHAT IT READS IS OF BULK AT MOST 1048576: true; the input reads as it did. -/
def datumCompareUptoRow : OpenClaim := { program := "ytidhenogfblolaa", sum := "3203ede040305c0fa4dcc43af1c93ef74b629340cf374010aa7b0b3ae12bb36b", func := "marquetry/marquetrylaw09.DatumCompare", spec := "datumCompare", inPlace := ["math.Float32frombits", "math.Float64frombits"], apart := false, narrowed := true }
def DatumCompareUptoSaid : Prop := datumCompareUptoRow.holds Try.pinned (OpenSpec.upto datumCompareSpec)

/-- 'marquetrylaw09.DatumOrder', WHERE WHAT IT READS IS OF BULK AT MOST 1048576: true; the input reads as it did. -/
def datumOrderUptoRow : OpenClaim := { program := "ytidhenogfblolaa", sum := "3203ede040305c0fa4dcc43af1c93ef74b629340cf374010aa7b0b3ae12bb36b", func := "marquetry/marquetrylaw09.DatumOrder", spec := "datumOrder", inPlace := ["math.Float32frombits", "math.Float64frombits"], apart := false, narrowed := true }
def DatumOrderUptoSaid : Prop := datumOrderUptoRow.holds Try.pinned (OpenSpec.upto datumOrderSpec)

end Rows
end Go.Proofs.Ytidhenogfblolaa
