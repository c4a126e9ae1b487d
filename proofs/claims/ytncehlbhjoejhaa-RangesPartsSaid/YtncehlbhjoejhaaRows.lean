/-
  No cell of these rows narrows 'for every input' (looked for: loops, veiled, ifaces, maps, wideKeys, modest, calm, conditions, laid).
  DERIVED. THE GIVEN ROWS OF THIS SEAT. 7 by the template 'for every input the law returns true; each argument reads behind the call as it read before'; 0 by the template 'total and deterministic' (their statements: YtncehlbhjoejhaaTotals.lean).
  GIVEN WITH THE SEED: the statements are not yours to turn. If you find one false, say at which input.
  Laid BY PROGRAM, IN A SANDBOX (cutbox-rows.mjs): the forced cells as the released guide's own fill.sh prints them over the translation 413d202359e567bf… (all of the seat's roots in one cut). By AI agents, Wed Nov 11 2026. No macro, syntax, notation, axiom, sorry.
-/
import Derived.Test.YtncehlbhjoejhaaChecked
import GoSem.Claim
import GoSem.ClaimJoined
import GoSem.ClaimMapViews
import Derived.JoinedTies
import Derived.KernelRfl
namespace Go.Proofs.Ytncehlbhjoejhaa
/- THE CELL 'sum', in the pinned program and in every row, IS THE sha256 OF THE DUMP (.gsa) THAT YtncehlbhjoejhaaProg.lean LOADS. Nothing in Lean hashes anything: it is a label: what it is worth is what the hold of that sum in a sandbox is worth. -/
noncomputable def Try.pinned : Pinned := { name := "ytncehlbhjoejhaa", sum := "413d202359e567bf666bd36e78d0cd1c90fabdd8b2a95b5d350da469e8c0a96c", checked := Try.checked }
namespace Rows
def none {H : Type} : Left H := { results := [], args := [] }

/-- 'marquetrylaw22.RangesOf': WHATEVER THE INPUT: true; the input reads as it did. -/
def rangesOfSpec : ChangeSpec := { name := "rangesOf", fn := fun _ => fun
  | [d1, d2, d3] => { results := [.lit (.bool true)], args := [d1, d2, d3] }
  | _ => none }
def rangesOfRow : OpenClaim := { program := "ytncehlbhjoejhaa", sum := "413d202359e567bf666bd36e78d0cd1c90fabdd8b2a95b5d350da469e8c0a96c", func := "marquetry/marquetrylaw22.RangesOf", spec := "rangesOf", inPlace := ["math.Float32frombits", "math.Float64frombits"], unfollowed := true, recurses := true, apart := false }
def RangesOfSaid : Prop := rangesOfRow.holds Try.pinned (OpenSpec.ofChange rangesOfSpec)

/-- ITS FALSE NEIGHBOUR: 'it returns false'. Refute it at one input. -/
def rangesOfWrong : ChangeSpec := { name := "rangesOf", fn := fun _ => fun
  | [d1, d2, d3] => { results := [.lit (.bool false)], args := [d1, d2, d3] }
  | _ => none }
def RangesOfWrongFalsely : Prop := rangesOfRow.holds Try.pinned (OpenSpec.ofChange rangesOfWrong)

/-- 'marquetrylaw22.RangesChecks': WHATEVER THE INPUT: true; the input reads as it did. -/
def rangesChecksSpec : ChangeSpec := { name := "rangesChecks", fn := fun _ => fun
  | [d1, d2] => { results := [.lit (.bool true)], args := [d1, d2] }
  | _ => none }
def rangesChecksRow : OpenClaim := { program := "ytncehlbhjoejhaa", sum := "413d202359e567bf666bd36e78d0cd1c90fabdd8b2a95b5d350da469e8c0a96c", func := "marquetry/marquetrylaw22.RangesChecks", spec := "rangesChecks", inPlace := ["math.Float32frombits", "math.Float64frombits"], unfollowed := true, recurses := true, apart := false }
def RangesChecksSaid : Prop := rangesChecksRow.holds Try.pinned (OpenSpec.ofChange rangesChecksSpec)

/-- ITS FALSE NEIGHBOUR: 'it returns false'. Refute it at one input. -/
def rangesChecksWrong : ChangeSpec := { name := "rangesChecks", fn := fun _ => fun
  | [d1, d2] => { results := [.lit (.bool false)], args := [d1, d2] }
  | _ => none }
def RangesChecksWrongFalsely : Prop := rangesChecksRow.holds Try.pinned (OpenSpec.ofChange rangesChecksWrong)

/-- 'marquetrylaw22.RangesBytes': WHATEVER THE INPUT: true; the input reads as it did. -/
def rangesBytesSpec : ChangeSpec := { name := "rangesBytes", fn := fun _ => fun
  | [d1, d2, d3] => { results := [.lit (.bool true)], args := [d1, d2, d3] }
  | _ => none }
def rangesBytesRow : OpenClaim := { program := "ytncehlbhjoejhaa", sum := "413d202359e567bf666bd36e78d0cd1c90fabdd8b2a95b5d350da469e8c0a96c", func := "marquetry/marquetrylaw22.RangesBytes", spec := "rangesBytes", inPlace := ["math.Float32frombits", "math.Float64frombits"], unfollowed := true, recurses := true, apart := false }
def RangesBytesSaid : Prop := rangesBytesRow.holds Try.pinned (OpenSpec.ofChange rangesBytesSpec)

/-- ITS FALSE NEIGHBOUR: 'it returns false'. Refute it at one input. -/
def rangesBytesWrong : ChangeSpec := { name := "rangesBytes", fn := fun _ => fun
  | [d1, d2, d3] => { results := [.lit (.bool false)], args := [d1, d2, d3] }
  | _ => none }
def RangesBytesWrongFalsely : Prop := rangesBytesRow.holds Try.pinned (OpenSpec.ofChange rangesBytesWrong)

/-- 'marquetrylaw22.RangesMay': WHATEVER THE INPUT: true; the input reads as it did. -/
def rangesMaySpec : ChangeSpec := { name := "rangesMay", fn := fun _ => fun
  | [d1, d2, d3] => { results := [.lit (.bool true)], args := [d1, d2, d3] }
  | _ => none }
def rangesMayRow : OpenClaim := { program := "ytncehlbhjoejhaa", sum := "413d202359e567bf666bd36e78d0cd1c90fabdd8b2a95b5d350da469e8c0a96c", func := "marquetry/marquetrylaw22.RangesMay", spec := "rangesMay", inPlace := ["math.Float32frombits", "math.Float64frombits"], unfollowed := true, recurses := true, apart := false }
def RangesMaySaid : Prop := rangesMayRow.holds Try.pinned (OpenSpec.ofChange rangesMaySpec)

/-- ITS FALSE NEIGHBOUR: 'it returns false'. Refute it at one input. -/
def rangesMayWrong : ChangeSpec := { name := "rangesMay", fn := fun _ => fun
  | [d1, d2, d3] => { results := [.lit (.bool false)], args := [d1, d2, d3] }
  | _ => none }
def RangesMayWrongFalsely : Prop := rangesMayRow.holds Try.pinned (OpenSpec.ofChange rangesMayWrong)

/-- 'marquetrylaw22.RangesSound': WHATEVER THE INPUT: true; the input reads as it did. -/
def rangesSoundSpec : ChangeSpec := { name := "rangesSound", fn := fun _ => fun
  | [d1, d2, d3] => { results := [.lit (.bool true)], args := [d1, d2, d3] }
  | _ => none }
def rangesSoundRow : OpenClaim := { program := "ytncehlbhjoejhaa", sum := "413d202359e567bf666bd36e78d0cd1c90fabdd8b2a95b5d350da469e8c0a96c", func := "marquetry/marquetrylaw22.RangesSound", spec := "rangesSound", inPlace := ["math.Float32frombits", "math.Float64frombits"], unfollowed := true, recurses := true, apart := false }
def RangesSoundSaid : Prop := rangesSoundRow.holds Try.pinned (OpenSpec.ofChange rangesSoundSpec)

/-- ITS FALSE NEIGHBOUR: 'it returns false'. Refute it at one input. -/
def rangesSoundWrong : ChangeSpec := { name := "rangesSound", fn := fun _ => fun
  | [d1, d2, d3] => { results := [.lit (.bool false)], args := [d1, d2, d3] }
  | _ => none }
def RangesSoundWrongFalsely : Prop := rangesSoundRow.holds Try.pinned (OpenSpec.ofChange rangesSoundWrong)

/-- 'marquetrylaw22.RangesJoins': WHATEVER THE INPUT: true; the input reads as it did. -/
def rangesJoinsSpec : ChangeSpec := { name := "rangesJoins", fn := fun _ => fun
  | [d1, d2] => { results := [.lit (.bool true)], args := [d1, d2] }
  | _ => none }
def rangesJoinsRow : OpenClaim := { program := "ytncehlbhjoejhaa", sum := "413d202359e567bf666bd36e78d0cd1c90fabdd8b2a95b5d350da469e8c0a96c", func := "marquetry/marquetrylaw22.RangesJoins", spec := "rangesJoins", inPlace := ["math.Float32frombits", "math.Float64frombits"], unfollowed := true, recurses := true, apart := false }
def RangesJoinsSaid : Prop := rangesJoinsRow.holds Try.pinned (OpenSpec.ofChange rangesJoinsSpec)

/-- ITS FALSE NEIGHBOUR: 'it returns false'. Refute it at one input. -/
def rangesJoinsWrong : ChangeSpec := { name := "rangesJoins", fn := fun _ => fun
  | [d1, d2] => { results := [.lit (.bool false)], args := [d1, d2] }
  | _ => none }
def RangesJoinsWrongFalsely : Prop := rangesJoinsRow.holds Try.pinned (OpenSpec.ofChange rangesJoinsWrong)

/-- 'marquetrylaw22.RangesParts': WHATEVER THE INPUT: true; the input reads as it did. -/
def rangesPartsSpec : ChangeSpec := { name := "rangesParts", fn := fun _ => fun
  | [d1, d2, d3] => { results := [.lit (.bool true)], args := [d1, d2, d3] }
  | _ => none }
def rangesPartsRow : OpenClaim := { program := "ytncehlbhjoejhaa", sum := "413d202359e567bf666bd36e78d0cd1c90fabdd8b2a95b5d350da469e8c0a96c", func := "marquetry/marquetrylaw22.RangesParts", spec := "rangesParts", inPlace := ["math.Float32frombits", "math.Float64frombits"], unfollowed := true, recurses := true, apart := false }
def RangesPartsSaid : Prop := rangesPartsRow.holds Try.pinned (OpenSpec.ofChange rangesPartsSpec)

/-- ITS FALSE NEIGHBOUR: 'it returns false'. Refute it at one input. -/
def rangesPartsWrong : ChangeSpec := { name := "rangesParts", fn := fun _ => fun
  | [d1, d2, d3] => { results := [.lit (.bool false)], args := [d1, d2, d3] }
  | _ => none }
def RangesPartsWrongFalsely : Prop := rangesPartsRow.holds Try.pinned (OpenSpec.ofChange rangesPartsWrong)

/- THE SECOND FORM. 'bulk': how many values and letters a reading holds, each counted each time it is reached (what is shared counts as often as it is met; a slice's spare places count too). A statement '..UptoSaid' is the law's where the arguments, and the package variables that the reading takes, are together of bulk at most 1048576: NARROWER than '..Said'. Prove '..Said' where nothing that the law and all that it calls make is longer than what came in: it says more and counts as full. Else prove '..UptoSaid'. A law counts once. -/
mutual
def uptoBulk {H : Type} : DataW H → Nat
  | .lit (.string bytes) => bytes.length + 1
  | .lit _ => 1
  | .nil => 1
  | .ptr d => uptoBulk d + 1
  | .slice elems spare => uptoBulkAll elems + uptoBulkAll spare + 1
  | .agg parts => uptoBulkAll parts + 1
  | .iface _ d => uptoBulk d + 1
  | .map entries => uptoBulkEntries entries + 1
  | .held _ => 1
def uptoBulkAll {H : Type} : List (DataW H) → Nat
  | [] => 0
  | d :: r => uptoBulk d + uptoBulkAll r
def uptoBulkEntries {H : Type} : List (Lit × DataW H) → Nat
  | [] => 0
  | x :: r => uptoBulkEntry x + uptoBulkEntries r
def uptoBulkEntry {H : Type} : Lit × DataW H → Nat
  | (.string bytes, d) => bytes.length + uptoBulk d + 1
  | (_, d) => uptoBulk d + 1
 end
def uptoSmall : (H : Type) → List (DataW H) → Bool := fun _ ds => decide (uptoBulkAll ds ≤ 1048576)
def OpenSpec.upto (s : _root_.Go.ChangeSpec) : _root_.Go.OpenSpec := { _root_.Go.OpenSpec.ofChange s with cond := some uptoSmall }

/-- 'marquetrylaw22.RangesOf', WHERE WHAT IT READS IS OF BULK AT MOST 1048576: true; the input reads as it did. -/
def rangesOfUptoRow : OpenClaim := { program := "ytncehlbhjoejhaa", sum := "413d202359e567bf666bd36e78d0cd1c90fabdd8b2a95b5d350da469e8c0a96c", func := "marquetry/marquetrylaw22.RangesOf", spec := "rangesOf", inPlace := ["math.Float32frombits", "math.Float64frombits"], unfollowed := true, recurses := true, apart := false, narrowed := true }
def RangesOfUptoSaid : Prop := rangesOfUptoRow.holds Try.pinned (OpenSpec.upto rangesOfSpec)

/-- 'marquetrylaw22.RangesChecks', WHERE WHAT IT READS IS OF BULK AT MOST 1048576: true; the input reads as it did. -/
def rangesChecksUptoRow : OpenClaim := { program := "ytncehlbhjoejhaa", sum := "413d202359e567bf666bd36e78d0cd1c90fabdd8b2a95b5d350da469e8c0a96c", func := "marquetry/marquetrylaw22.RangesChecks", spec := "rangesChecks", inPlace := ["math.Float32frombits", "math.Float64frombits"], unfollowed := true, recurses := true, apart := false, narrowed := true }
def RangesChecksUptoSaid : Prop := rangesChecksUptoRow.holds Try.pinned (OpenSpec.upto rangesChecksSpec)

/-- 'marquetrylaw22.RangesBytes', WHERE WHAT IT READS IS OF BULK AT MOST 1048576: true; the input reads as it did. -/
def rangesBytesUptoRow : OpenClaim := { program := "ytncehlbhjoejhaa", sum := "413d202359e567bf666bd36e78d0cd1c90fabdd8b2a95b5d350da469e8c0a96c", func := "marquetry/marquetrylaw22.RangesBytes", spec := "rangesBytes", inPlace := ["math.Float32frombits", "math.Float64frombits"], unfollowed := true, recurses := true, apart := false, narrowed := true }
def RangesBytesUptoSaid : Prop := rangesBytesUptoRow.holds Try.pinned (OpenSpec.upto rangesBytesSpec)

/-- 'marquetrylaw22.RangesMay', WHERE WHAT IT READS IS OF BULK AT MOST 1048576: true; the input reads as it did. -/
def rangesMayUptoRow : OpenClaim := { program := "ytncehlbhjoejhaa", sum := "413d202359e567bf666bd36e78d0cd1c90fabdd8b2a95b5d350da469e8c0a96c", func := "marquetry/marquetrylaw22.RangesMay", spec := "rangesMay", inPlace := ["math.Float32frombits", "math.Float64frombits"], unfollowed := true, recurses := true, apart := false, narrowed := true }
def RangesMayUptoSaid : Prop := rangesMayUptoRow.holds Try.pinned (OpenSpec.upto rangesMaySpec)

/-- 'marquetrylaw22.RangesSound', WHERE WHAT IT READS IS OF BULK AT MOST 1048576: true; the input reads as it did. -/
def rangesSoundUptoRow : OpenClaim := { program := "ytncehlbhjoejhaa", sum := "413d202359e567bf666bd36e78d0cd1c90fabdd8b2a95b5d350da469e8c0a96c", func := "marquetry/marquetrylaw22.RangesSound", spec := "rangesSound", inPlace := ["math.Float32frombits", "math.Float64frombits"], unfollowed := true, recurses := true, apart := false, narrowed := true }
def RangesSoundUptoSaid : Prop := rangesSoundUptoRow.holds Try.pinned (OpenSpec.upto rangesSoundSpec)

/-- 'marquetrylaw22.RangesJoins', WHERE WHAT IT READS IS OF BULK AT MOST 1048576: true; the input reads as it did. -/
def rangesJoinsUptoRow : OpenClaim := { program := "ytncehlbhjoejhaa", sum := "413d202359e567bf666bd36e78d0cd1c90fabdd8b2a95b5d350da469e8c0a96c", func := "marquetry/marquetrylaw22.RangesJoins", spec := "rangesJoins", inPlace := ["math.Float32frombits", "math.Float64frombits"], unfollowed := true, recurses := true, apart := false, narrowed := true }
def RangesJoinsUptoSaid : Prop := rangesJoinsUptoRow.holds Try.pinned (OpenSpec.upto rangesJoinsSpec)

/-- 'marquetrylaw22.RangesParts', WHERE WHAT IT READS IS OF BULK AT MOST 1048576: true; the input reads as it did. -/
def rangesPartsUptoRow : OpenClaim := { program := "ytncehlbhjoejhaa", sum := "413d202359e567bf666bd36e78d0cd1c90fabdd8b2a95b5d350da469e8c0a96c", func := "marquetry/marquetrylaw22.RangesParts", spec := "rangesParts", inPlace := ["math.Float32frombits", "math.Float64frombits"], unfollowed := true, recurses := true, apart := false, narrowed := true }
def RangesPartsUptoSaid : Prop := rangesPartsUptoRow.holds Try.pinned (OpenSpec.upto rangesPartsSpec)

end Rows
end Go.Proofs.Ytncehlbhjoejhaa
