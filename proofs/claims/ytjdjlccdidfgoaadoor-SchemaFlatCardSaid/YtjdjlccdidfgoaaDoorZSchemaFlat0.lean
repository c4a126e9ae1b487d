/- Texts of the claim, packed: Utf8. -/
import Derived.Below
import Derived.Lib.LaidU8T
import Derived.Shelf.Unicode.ValidAny
import Derived.Test.YtjdjlccdidfgoaaDoorProg
import Derived.WalkKit
section
/- The laying of utf8.ValidString at this seat (printed by mkutf8.py): where its bodies, types and tables stand; the contract. Not trusted: Lean checks it. -/
namespace Go.Proofs.YtjdjlccdidfgoaaDoor.H
open Go.RowKit Go.Shelf Go.Lib
set_option maxRecDepth 100000
/-- The numbers here of what the library's text names. -/
def renU : Ren where
  f := fun | 196 => 52 | 259 => 62 | n => n
  t := fun | 9 => 9 | 4 => 4 | 3 => 3 | 5 => 5 | 12 => 12 | 119 => 102 | 0 => 0 | 46 => 106 | 139 => 105 | 138 => 104 | 53 => 113 | n => n
  g := fun | 3 => 0 | 4 => 1 | n => n
theorem laysU : Lays.n196 Tryd.prog renU where
  mixed := by kernel_rfl
  f196 := Tryd.func52.trans (congrArg some (by kernel_rfl))
  f259 := Tryd.func62.trans (congrArg some (by kernel_rfl))
  t0 := Tryd.underlying0
  a0 := Tryd.isAgg0
  z0 := Tryd.sizeOf0
  v0 := Tryd.zeroValue0
  t3 := Tryd.underlying3
  a3 := Tryd.isAgg3
  z3 := Tryd.sizeOf3
  v3 := Tryd.zeroValue3
  t4 := Tryd.underlying4
  a4 := Tryd.isAgg4
  z4 := Tryd.sizeOf4
  v4 := Tryd.zeroValue4
  t5 := Tryd.underlying5
  a5 := Tryd.isAgg5
  z5 := Tryd.sizeOf5
  v5 := Tryd.zeroValue5
  t9 := Tryd.underlying9
  a9 := Tryd.isAgg9
  z9 := Tryd.sizeOf9
  v9 := Tryd.zeroValue9
  t12 := Tryd.underlying12
  a12 := Tryd.isAgg12
  z12 := Tryd.sizeOf12
  v12 := Tryd.zeroValue12
  t46 := Tryd.underlying106
  a46 := Tryd.isAgg106
  z46 := Tryd.sizeOf106
  v46 := Tryd.zeroValue106
  t53 := Tryd.underlying113
  a53 := Tryd.isAgg113
  z53 := Tryd.sizeOf113
  v53 := Tryd.zeroValue113
  t119 := Tryd.underlying102
  a119 := Tryd.isAgg102
  z119 := Tryd.sizeOf102
  t138 := Tryd.underlying104
  a138 := Tryd.isAgg104
  z138 := Tryd.sizeOf104
  v138 := Tryd.zeroValue104
  t139 := Tryd.underlying105
  a139 := Tryd.isAgg105
  z139 := Tryd.sizeOf105
  v139 := Tryd.zeroValue105
  g3 := by kernel_rfl
  g4 := by kernel_rfl
/-- Go's two tables lie as they were laid. -/
def Tabs_ (w : World) : Prop := Lib.Utf8Tabs (renU.g 3) (renU.g 4) w
theorem Tabs_.below {a b : World} (h : Tabs_ a) (hb : Below a.heap.size a b) : Tabs_ b := Utf8Tabs_below h hb
theorem Tabs_.alloc {a : World} (h : Tabs_ a) (o : Obj) : Tabs_ (a.alloc o) := h.below ((Below.refl _ a).alloc (Nat.le_refl _) o)
theorem Tabs_.drew {a : World} (h : Tabs_ a) : Tabs_ a.drew := h.below (Below.refl _ a).drew
theorem Tabs_.drewN {a : World} (h : Tabs_ a) : ∀ n, Tabs_ (a.drewN n)
  | 0 => h
  | n + 1 => (h.drewN n).drew
theorem valid_calls (s : ByteArray) (w : World) (hs : s.size ≤ 9223372036854775807) (hT_ : Tabs_ w) : Calls Tryd.prog 52 #[.string s] w fun e w' => e = .returned (.bool (Lib.validD s.data.toList)) ∧ Below w.heap.size w w' :=
  Any.utf8_ValidString laysU s w hs hT_
end Go.Proofs.YtjdjlccdidfgoaaDoor.H
end
