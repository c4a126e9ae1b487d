/- Texts of the claim, packed: Utf8. -/
import Derived.Below
import Derived.Lib.LaidU8T
import Derived.Shelf.Unicode.ValidAny
import Derived.Test.YtnbmgljcnbhinaaDoorProg
import Derived.WalkKit
section
/- The laying of utf8.ValidString at this seat (printed by mkutf8.py): where its bodies, types and tables stand; the contract. Not trusted: Lean checks it. -/
namespace Go.Proofs.YtnbmgljcnbhinaaDoor.H
open Go.RowKit Go.Shelf Go.Lib
set_option maxRecDepth 100000
/-- The numbers here of what the library's text names. -/
def renU : Ren where
  f := fun | 196 => 69 | 259 => 83 | n => n
  t := fun | 9 => 9 | 4 => 4 | 3 => 3 | 5 => 5 | 12 => 12 | 119 => 126 | 0 => 0 | 46 => 130 | 139 => 129 | 138 => 128 | 53 => 111 | n => n
  g := fun | 3 => 0 | 4 => 1 | n => n
theorem laysU : Lays.n196 Tryd.prog renU where
  mixed := by kernel_rfl
  f196 := Tryd.func69.trans (congrArg some (by kernel_rfl))
  f259 := Tryd.func83.trans (congrArg some (by kernel_rfl))
  t0 := Tryd.underlying0
  a0 := Tryd.isAgg0
  z0 := Tryd.sizeOf0
  v0 := Tryd.zeroValue0
  t3 := Tryd.underlying3
  a3 := Tryd.isAgg3
  z3 := Tryd.sizeOf3
  v3 := Tryd.zeroValue3
  t4 := Tryd.underlying4
  a4 := Tryd.isAgg4
  z4 := Tryd.sizeOf4
  v4 := Tryd.zeroValue4
  t5 := Tryd.underlying5
  a5 := Tryd.isAgg5
  z5 := Tryd.sizeOf5
  v5 := Tryd.zeroValue5
  t9 := Tryd.underlying9
  a9 := Tryd.isAgg9
  z9 := Tryd.sizeOf9
  v9 := Tryd.zeroValue9
  t12 := Tryd.underlying12
  a12 := Tryd.isAgg12
  z12 := Tryd.sizeOf12
  v12 := Tryd.zeroValue12
  t46 := Tryd.underlying130
  a46 := Tryd.isAgg130
  z46 := Tryd.sizeOf130
  v46 := Tryd.zeroValue130
  t53 := Tryd.underlying111
  a53 := Tryd.isAgg111
  z53 := Tryd.sizeOf111
  v53 := Tryd.zeroValue111
  t119 := Tryd.underlying126
  a119 := Tryd.isAgg126
  z119 := Tryd.sizeOf126
  t138 := Tryd.underlying128
  a138 := Tryd.isAgg128
  z138 := Tryd.sizeOf128
  v138 := Tryd.zeroValue128
  t139 := Tryd.underlying129
  a139 := Tryd.isAgg129
  z139 := Tryd.sizeOf129
  v139 := Tryd.zeroValue129
  g3 := by kernel_rfl
  g4 := by kernel_rfl
/-- Go's two tables lie as they were laid. -/
def Tabs_ (w : World) : Prop := Lib.Utf8Tabs (renU.g 3) (renU.g 4) w
theorem Tabs_.below {a b : World} (h : Tabs_ a) (hb : Below a.heap.size a b) : Tabs_ b := Utf8Tabs_below h hb
theorem Tabs_.alloc {a : World} (h : Tabs_ a) (o : Obj) : Tabs_ (a.alloc o) := h.below ((Below.refl _ a).alloc (Nat.le_refl _) o)
theorem Tabs_.drew {a : World} (h : Tabs_ a) : Tabs_ a.drew := h.below (Below.refl _ a).drew
theorem Tabs_.drewN {a : World} (h : Tabs_ a) : ∀ n, Tabs_ (a.drewN n)
  | 0 => h
  | n + 1 => (h.drewN n).drew
theorem valid_calls (s : ByteArray) (w : World) (hs : s.size ≤ 9223372036854775807) (hT_ : Tabs_ w) : Calls Tryd.prog 69 #[.string s] w fun e w' => e = .returned (.bool (Lib.validD s.data.toList)) ∧ Below w.heap.size w w' :=
  Any.utf8_ValidString laysU s w hs hT_
end Go.Proofs.YtnbmgljcnbhinaaDoor.H
end
