/-
  No cell of these rows narrows 'for every input' (looked for: loops, veiled, ifaces, maps, wideKeys, modest, calm, conditions, laid).
  DERIVED. THE GIVEN ROWS OF THIS SEAT. 6 by the template 'for every input the law returns true; each argument reads behind the call as it read before'; 0 by the template 'total and deterministic' (their statements: YtkpmjijhgmmjoaaTotals.lean).
  GIVEN WITH THE SEED: the statements are not yours to turn. If you find one false, say at which input.
  Laid BY PROGRAM, IN A SANDBOX (cutbox-rows.mjs): the forced cells as the released guide's own fill.sh prints them over the translation e487b877a5ce6d84… (all of the seat's roots in one cut). By AI agents, Wed Nov 11 2026. No macro, syntax, notation, axiom, sorry.
-/
import Derived.Test.YtkpmjijhgmmjoaaChecked
import GoSem.Claim
import GoSem.ClaimJoined
import GoSem.ClaimMapViews
import Derived.JoinedTies
import Derived.KernelRfl
namespace Go.Proofs.Ytkpmjijhgmmjoaa
/- THE CELL 'sum', in the pinned program and in every row, IS THE sha256 OF THE DUMP (.gsa) THAT YtkpmjijhgmmjoaaProg.lean LOADS. Nothing in Lean hashes anything: it is a label: what it is worth is what the hold of that sum in a sandbox is worth. -/
noncomputable def Try.pinned : Pinned := { name := "ytkpmjijhgmmjoaa", sum := "e487b877a5ce6d840a1c6675ff6d0e7a2a2b7fe2c913986a1f1a8725c8b32812", checked := Try.checked }
namespace Rows
def none {H : Type} : Left H := { results := [], args := [] }

/-- 'marquetrylaw15.StreamWrites': WHATEVER THE INPUT: true; the input reads as it did. -/
def streamWritesSpec : ChangeSpec := { name := "streamWrites", fn := fun _ => fun
  | [d1, d2] => { results := [.lit (.bool true)], args := [d1, d2] }
  | _ => none }
def streamWritesRow : OpenClaim := { program := "ytkpmjijhgmmjoaa", sum := "e487b877a5ce6d840a1c6675ff6d0e7a2a2b7fe2c913986a1f1a8725c8b32812", func := "marquetry/marquetrylaw15.StreamWrites", spec := "streamWrites", unfollowed := true, recurses := true, apart := false }
def StreamWritesSaid : Prop := streamWritesRow.holds Try.pinned (OpenSpec.ofChange streamWritesSpec)

/-- ITS FALSE NEIGHBOUR: 'it returns false'. Refute it at one input. -/
def streamWritesWrong : ChangeSpec := { name := "streamWrites", fn := fun _ => fun
  | [d1, d2] => { results := [.lit (.bool false)], args := [d1, d2] }
  | _ => none }
def StreamWritesWrongFalsely : Prop := streamWritesRow.holds Try.pinned (OpenSpec.ofChange streamWritesWrong)

/-- 'marquetrylaw15.StreamReads': WHATEVER THE INPUT: true; the input reads as it did. -/
def streamReadsSpec : ChangeSpec := { name := "streamReads", fn := fun _ => fun
  | [d1, d2] => { results := [.lit (.bool true)], args := [d1, d2] }
  | _ => none }
def streamReadsRow : OpenClaim := { program := "ytkpmjijhgmmjoaa", sum := "e487b877a5ce6d840a1c6675ff6d0e7a2a2b7fe2c913986a1f1a8725c8b32812", func := "marquetry/marquetrylaw15.StreamReads", spec := "streamReads", unfollowed := true, recurses := true, apart := false }
def StreamReadsSaid : Prop := streamReadsRow.holds Try.pinned (OpenSpec.ofChange streamReadsSpec)

/-- ITS FALSE NEIGHBOUR: 'it returns false'. Refute it at one input. -/
def streamReadsWrong : ChangeSpec := { name := "streamReads", fn := fun _ => fun
  | [d1, d2] => { results := [.lit (.bool false)], args := [d1, d2] }
  | _ => none }
def StreamReadsWrongFalsely : Prop := streamReadsRow.holds Try.pinned (OpenSpec.ofChange streamReadsWrong)

/-- 'marquetrylaw15.StreamPlaces': WHATEVER THE INPUT: true; the input reads as it did. -/
def streamPlacesSpec : ChangeSpec := { name := "streamPlaces", fn := fun _ => fun
  | [d1, d2, d3] => { results := [.lit (.bool true)], args := [d1, d2, d3] }
  | _ => none }
def streamPlacesRow : OpenClaim := { program := "ytkpmjijhgmmjoaa", sum := "e487b877a5ce6d840a1c6675ff6d0e7a2a2b7fe2c913986a1f1a8725c8b32812", func := "marquetry/marquetrylaw15.StreamPlaces", spec := "streamPlaces", unfollowed := true, recurses := true, apart := false }
def StreamPlacesSaid : Prop := streamPlacesRow.holds Try.pinned (OpenSpec.ofChange streamPlacesSpec)

/-- ITS FALSE NEIGHBOUR: 'it returns false'. Refute it at one input. -/
def streamPlacesWrong : ChangeSpec := { name := "streamPlaces", fn := fun _ => fun
  | [d1, d2, d3] => { results := [.lit (.bool false)], args := [d1, d2, d3] }
  | _ => none }
def StreamPlacesWrongFalsely : Prop := streamPlacesRow.holds Try.pinned (OpenSpec.ofChange streamPlacesWrong)

/-- 'marquetrylaw15.StreamBounds': WHATEVER THE INPUT: true; the input reads as it did. -/
def streamBoundsSpec : ChangeSpec := { name := "streamBounds", fn := fun _ => fun
  | [] => { results := [.lit (.bool true)], args := [] }
  | _ => none }
def streamBoundsRow : OpenClaim := { program := "ytkpmjijhgmmjoaa", sum := "e487b877a5ce6d840a1c6675ff6d0e7a2a2b7fe2c913986a1f1a8725c8b32812", func := "marquetry/marquetrylaw15.StreamBounds", spec := "streamBounds", unfollowed := true, recurses := true, apart := false }
def StreamBoundsSaid : Prop := streamBoundsRow.holds Try.pinned (OpenSpec.ofChange streamBoundsSpec)

/-- ITS FALSE NEIGHBOUR: 'it returns false'. Refute it at one input. -/
def streamBoundsWrong : ChangeSpec := { name := "streamBounds", fn := fun _ => fun
  | [] => { results := [.lit (.bool false)], args := [] }
  | _ => none }
def StreamBoundsWrongFalsely : Prop := streamBoundsRow.holds Try.pinned (OpenSpec.ofChange streamBoundsWrong)

/-- 'marquetrylaw15.StreamBack': WHATEVER THE INPUT: true; the input reads as it did. -/
def streamBackSpec : ChangeSpec := { name := "streamBack", fn := fun _ => fun
  | [d1, d2] => { results := [.lit (.bool true)], args := [d1, d2] }
  | _ => none }
def streamBackRow : OpenClaim := { program := "ytkpmjijhgmmjoaa", sum := "e487b877a5ce6d840a1c6675ff6d0e7a2a2b7fe2c913986a1f1a8725c8b32812", func := "marquetry/marquetrylaw15.StreamBack", spec := "streamBack", unfollowed := true, recurses := true, apart := false }
def StreamBackSaid : Prop := streamBackRow.holds Try.pinned (OpenSpec.ofChange streamBackSpec)

/-- ITS FALSE NEIGHBOUR: 'it returns false'. Refute it at one input. -/
def streamBackWrong : ChangeSpec := { name := "streamBack", fn := fun _ => fun
  | [d1, d2] => { results := [.lit (.bool false)], args := [d1, d2] }
  | _ => none }
def StreamBackWrongFalsely : Prop := streamBackRow.holds Try.pinned (OpenSpec.ofChange streamBackWrong)

/-- 'marquetrylaw15.StreamMoves': WHATEVER THE INPUT: true; the input reads as it did. -/
def streamMovesSpec : ChangeSpec := { name := "streamMoves", fn := fun _ => fun
  | [d1, d2] => { results := [.lit (.bool true)], args := [d1, d2] }
  | _ => none }
def streamMovesRow : OpenClaim := { program := "ytkpmjijhgmmjoaa", sum := "e487b877a5ce6d840a1c6675ff6d0e7a2a2b7fe2c913986a1f1a8725c8b32812", func := "marquetry/marquetrylaw15.StreamMoves", spec := "streamMoves", unfollowed := true, recurses := true, apart := false }
def StreamMovesSaid : Prop := streamMovesRow.holds Try.pinned (OpenSpec.ofChange streamMovesSpec)

/-- ITS FALSE NEIGHBOUR: 'it returns false'. Refute it at one input. -/
def streamMovesWrong : ChangeSpec := { name := "streamMoves", fn := fun _ => fun
  | [d1, d2] => { results := [.lit (.bool false)], args := [d1, d2] }
  | _ => none }
def StreamMovesWrongFalsely : Prop := streamMovesRow.holds Try.pinned (OpenSpec.ofChange streamMovesWrong)

/- THE SECOND FORM. 'bulk': how many values and letters a reading holds, each counted each time it is reached (what is shared counts as often as it is met; a slice's spare places count too). A statement '..UptoSaid' is the law's where the arguments, and the package variables that the reading takes, are together of bulk at most 1048576: NARROWER than '..Said'. Prove '..Said' where nothing that the law and all that it calls make is longer than what came in: it says more and counts as full. Else prove '..UptoSaid'. A law counts once. -/
mutual
def uptoBulk {H : Type} : DataW H → Nat
  | .lit (.string bytes) => bytes.length + 1
  | .lit _ => 1
  | .nil => 1
  | .ptr d => uptoBulk d + 1
  | .slice elems spare => uptoBulkAll elems + uptoBulkAll spare + 1
  | .agg parts => uptoBulkAll parts + 1
  | .iface _ d => uptoBulk d + 1
  | .map entries => uptoBulkEntries entries + 1
  | .held _ => 1
def uptoBulkAll {H : Type} : List (DataW H) → Nat
  | [] => 0
  | d :: r => uptoBulk d + uptoBulkAll r
def uptoBulkEntries {H : Type} : List (Lit × DataW H) → Nat
  | [] => 0
  | x :: r => uptoBulkEntry x + uptoBulkEntries r
def uptoBulkEntry {H : Type} : Lit × DataW H → Nat
  | (.string bytes, d) => bytes.length + uptoBulk d + 1
  | (_, d) => uptoBulk d + 1
 end
def uptoSmall : (H : Type) → List (DataW H) → Bool := fun _ ds => decide (uptoBulkAll ds ≤ 1048576)
def OpenSpec.upto (s : _root_.Go.ChangeSpec) : _root_.Go.OpenSpec := { _root_.Go.OpenSpec.ofChange s with cond := some uptoSmall }

/-- 'marquetrylaw15.StreamWrites', WHERE WHAT IT READS IS OF BULK AT MOST 1048576: true; the input reads as it did. -/
def streamWritesUptoRow : OpenClaim := { program := "ytkpmjijhgmmjoaa", sum := "e487b877a5ce6d840a1c6675ff6d0e7a2a2b7fe2c913986a1f1a8725c8b32812", func := "marquetry/marquetrylaw15.StreamWrites", spec := "streamWrites", unfollowed := true, recurses := true, apart := false, narrowed := true }
def StreamWritesUptoSaid : Prop := streamWritesUptoRow.holds Try.pinned (OpenSpec.upto streamWritesSpec)

/-- 'marquetrylaw15.StreamReads', WHERE WHAT IT READS IS OF BULK AT MOST 1048576: true; the input reads as it did. -/
def streamReadsUptoRow : OpenClaim := { program := "ytkpmjijhgmmjoaa", sum := "e487b877a5ce6d840a1c6675ff6d0e7a2a2b7fe2c913986a1f1a8725c8b32812", func := "marquetry/marquetrylaw15.StreamReads", spec := "streamReads", unfollowed := true, recurses := true, apart := false, narrowed := true }
def StreamReadsUptoSaid : Prop := streamReadsUptoRow.holds Try.pinned (OpenSpec.upto streamReadsSpec)

/-- 'marquetrylaw15.StreamPlaces', WHERE WHAT IT READS IS OF BULK AT MOST 1048576: true; the input reads as it did. -/
def streamPlacesUptoRow : OpenClaim := { program := "ytkpmjijhgmmjoaa", sum := "e487b877a5ce6d840a1c6675ff6d0e7a2a2b7fe2c913986a1f1a8725c8b32812", func := "marquetry/marquetrylaw15.StreamPlaces", spec := "streamPlaces", unfollowed := true, recurses := true, apart := false, narrowed := true }
def StreamPlacesUptoSaid : Prop := streamPlacesUptoRow.holds Try.pinned (OpenSpec.upto streamPlacesSpec)

/-- 'marquetrylaw15.StreamBounds', WHERE WHAT IT READS IS OF BULK AT MOST 1048576: true; the input reads as it did. -/
def streamBoundsUptoRow : OpenClaim := { program := "ytkpmjijhgmmjoaa", sum := "e487b877a5ce6d840a1c6675ff6d0e7a2a2b7fe2c913986a1f1a8725c8b32812", func := "marquetry/marquetrylaw15.StreamBounds", spec := "streamBounds", unfollowed := true, recurses := true, apart := false, narrowed := true }
def StreamBoundsUptoSaid : Prop := streamBoundsUptoRow.holds Try.pinned (OpenSpec.upto streamBoundsSpec)

/-- 'marquetrylaw15.StreamBack', WHERE WHAT IT READS IS OF BULK AT MOST 1048576: true; the input reads as it did. -/
def streamBackUptoRow : OpenClaim := { program := "ytkpmjijhgmmjoaa", sum := "e487b877a5ce6d840a1c6675ff6d0e7a2a2b7fe2c913986a1f1a8725c8b32812", func := "marquetry/marquetrylaw15.StreamBack", spec := "streamBack", unfollowed := true, recurses := true, apart := false, narrowed := true }
def StreamBackUptoSaid : Prop := streamBackUptoRow.holds Try.pinned (OpenSpec.upto streamBackSpec)

/-- 'marquetrylaw15.StreamMoves', WHERE WHAT IT READS IS OF BULK AT MOST 1048576: true; the input reads as it did. -/
def streamMovesUptoRow : OpenClaim := { program := "ytkpmjijhgmmjoaa", sum := "e487b877a5ce6d840a1c6675ff6d0e7a2a2b7fe2c913986a1f1a8725c8b32812", func := "marquetry/marquetrylaw15.StreamMoves", spec := "streamMoves", unfollowed := true, recurses := true, apart := false, narrowed := true }
def StreamMovesUptoSaid : Prop := streamMovesUptoRow.holds Try.pinned (OpenSpec.upto streamMovesSpec)

end Rows
end Go.Proofs.Ytkpmjijhgmmjoaa
