/- Parts of the proof of TopOnce, under no condition. -/
import Derived.Shelf.SlGeneric
import Derived.Shelf.SlSortCmp.InsertionK
import Derived.Test.YtcfhkbcllijnkaaGreatRows
set_option linter.unusedVariables false
set_option linter.unusedSimpArgs false
set_option maxRecDepth 100000
set_option maxHeartbeats 0
namespace Go.Proofs
open Go.Shelf
def Tryz.sortEn_ren : Go.Shelf.Ren := ⟨fun | 20 => 302 | n => n, fun | 24 => 63 | 22 => 42 | 3 => 3 | 25 => 326 | 4 => 4 | 0 => 0 | n => n, fun | n => n⟩
theorem Tryz.sortEn : Go.Proofs.SlLaysF0.n20 Tryz.prog Tryz.sortEn_ren := {
 mixed := by kernel_rfl
 f20 := ⟨Tryz.f302.name, by decide, Tryz.func302.trans (congrArg some (by kernel_rfl))⟩
 t0 := Tryz.underlying0
 a0 := Tryz.isAgg0
 z0 := Tryz.sizeOf0
 v0 := Tryz.zeroValue0
 t3 := Tryz.underlying3
 a3 := Tryz.isAgg3
 z3 := Tryz.sizeOf3
 v3 := Tryz.zeroValue3
 t4 := Tryz.underlying4
 a4 := Tryz.isAgg4
 z4 := Tryz.sizeOf4
 v4 := Tryz.zeroValue4
 t22 := Tryz.underlying42
 a22 := Tryz.isAgg42
 z22 := Tryz.sizeOf42
 v22 := Tryz.zeroValue42
 t25 := Tryz.underlying326
 a25 := Tryz.isAgg326
 z25 := Tryz.sizeOf326
 v25 := Tryz.zeroValue326 }
def Tryz.sortBl_ren : Go.Shelf.Ren := ⟨fun | 20 => 298 | n => n, fun | 24 => 222 | 22 => 218 | 3 => 3 | 25 => 339 | 4 => 4 | 0 => 0 | n => n, fun | n => n⟩
theorem Tryz.sortBl : Go.Proofs.SlLaysF0.n20 Tryz.prog Tryz.sortBl_ren := {
 mixed := by kernel_rfl
 f20 := ⟨Tryz.f298.name, by decide, Tryz.func298.trans (congrArg some (by kernel_rfl))⟩
 t0 := Tryz.underlying0
 a0 := Tryz.isAgg0
 z0 := Tryz.sizeOf0
 v0 := Tryz.zeroValue0
 t3 := Tryz.underlying3
 a3 := Tryz.isAgg3
 z3 := Tryz.sizeOf3
 v3 := Tryz.zeroValue3
 t4 := Tryz.underlying4
 a4 := Tryz.isAgg4
 z4 := Tryz.sizeOf4
 v4 := Tryz.zeroValue4
 t22 := Tryz.underlying218
 a22 := Tryz.isAgg218
 z22 := Tryz.sizeOf218
 v22 := Tryz.zeroValue218
 t25 := Tryz.underlying339
 a25 := Tryz.isAgg339
 z25 := Tryz.sizeOf339
 v25 := Tryz.zeroValue339 }
end Go.Proofs
