/- Contracts and plain laws that the proof of TopPairs goes by, under no condition. -/
import Derived.Shelf.SlGeneric
import Derived.Shelf.SlIterI.Nil
import Derived.Shelf.SortM.Plain
import Derived.Shelf.SortM.SortNone
import Derived.Ground.GgzProg
import Derived.Ground.SlgmProg
import Derived.Test.YtcfhkbcllijnkaaGreatRows
set_option linter.unusedVariables false
set_option linter.unusedSimpArgs false
set_option maxRecDepth 100000
set_option maxHeartbeats 40000000
namespace Go.Proofs
open Go.Shelf
def Tryz.keysB_ren : Go.Shelf.Ren := ⟨fun | 7 => 155 | 10 => 214 | n => n, fun | 23 => 237 | 26 => 3 | 3 => 4 | 28 => 240 | 0 => 0 | 27 => 239 | 33 => 72 | 4 => 4 | n => n, fun | n => n⟩
theorem Tryz.keysB : Go.Proofs.SlLaysZI.n7 Tryz.prog Tryz.keysB_ren := {
 mixed := by kernel_rfl
 f7 := ⟨Tryz.f155.name, by decide, Tryz.func155.trans (congrArg some (by kernel_rfl))⟩
 f10 := ⟨Tryz.f214.name, by decide, Tryz.func214.trans (congrArg some (by kernel_rfl))⟩
 t0 := Tryz.underlying0
 a0 := Tryz.isAgg0
 z0 := Tryz.sizeOf0
 v0 := Tryz.zeroValue0
 t4 := Tryz.underlying4
 a4 := Tryz.isAgg4
 z4 := Tryz.sizeOf4
 v4 := Tryz.zeroValue4
 t23 := Tryz.underlying237
 a23 := Tryz.isAgg237
 z23 := Tryz.sizeOf237
 v23 := Tryz.zeroValue237
 t26 := Tryz.underlying3
 a26 := Tryz.isAgg3
 z26 := Tryz.sizeOf3
 v26 := Tryz.zeroValue3
 t27 := Tryz.underlying239
 a27 := Tryz.isAgg239
 z27 := Tryz.sizeOf239
 v27 := Tryz.zeroValue239
 t28 := Tryz.underlying240
 a28 := Tryz.isAgg240
 z28 := Tryz.sizeOf240
 v28 := Tryz.zeroValue240
 t33 := Tryz.underlying72
 a33 := Tryz.isAgg72
 z33 := Tryz.sizeOf72
 v33 := Tryz.zeroValue72 }
def Tryz.sortedB_ren : Go.Shelf.Ren := ⟨fun | 6 => 154 | 8 => 213 | 9 => 82 | 11 => 257 | 13 => 133 | 12 => 132 | 23 => 190 | 24 => 191 | 14 => 181 | 15 => 182 | 16 => 183 | 17 => 184 | 18 => 185 | 19 => 186 | 20 => 187 | 21 => 188 | 22 => 189 | 25 => 239 | 26 => 240 | 27 => 241 | 28 => 242 | 29 => 243 | 30 => 202 | 31 => 281 | n => n, fun | 26 => 3 | 28 => 240 | 24 => 33 | 0 => 0 | 3 => 3 | 37 => 40 | 48 => 283 | 50 => 22 | 4 => 4 | 40 => 277 | 39 => 276 | 45 => 30 | 5 => 5 | 9 => 9 | 51 => 319 | 55 => 322 | 57 => 345 | 58 => 346 | 33 => 72 | n => n, fun | n => n⟩
theorem Tryz.sortedB : Go.Proofs.SlLaysZI.n6 Tryz.prog Tryz.sortedB_ren := {
 mixed := by kernel_rfl
 f6 := ⟨Tryz.f154.name, by decide, Tryz.func154.trans (congrArg some (by kernel_rfl))⟩
 f8 := ⟨Tryz.f213.name, by decide, Tryz.func213.trans (congrArg some (by kernel_rfl))⟩
 f11 := ⟨Tryz.f257.name, by decide, Tryz.func257.trans (congrArg some (by kernel_rfl))⟩
 t0 := Tryz.underlying0
 a0 := Tryz.isAgg0
 z0 := Tryz.sizeOf0
 v0 := Tryz.zeroValue0
 t24 := Tryz.underlying33
 a24 := Tryz.isAgg33
 z24 := Tryz.sizeOf33
 v24 := Tryz.zeroValue33
 t26 := Tryz.underlying3
 a26 := Tryz.isAgg3
 z26 := Tryz.sizeOf3
 v26 := Tryz.zeroValue3
 t28 := Tryz.underlying240
 a28 := Tryz.isAgg240
 z28 := Tryz.sizeOf240
 v28 := Tryz.zeroValue240
 i26 := by kernel_rfl }
def Tryz.sortB_ren : Go.Shelf.Ren := ⟨fun | 5 => 82 | 8 => 133 | 7 => 132 | 19 => 190 | 20 => 191 | 10 => 181 | 11 => 182 | 12 => 183 | 13 => 184 | 14 => 185 | 15 => 186 | 16 => 187 | 17 => 188 | 18 => 189 | 30 => 239 | 31 => 240 | 32 => 241 | 33 => 242 | 34 => 243 | 35 => 202 | 40 => 281 | n => n, fun | 23 => 33 | 25 => 3 | 3 => 3 | 32 => 40 | 22 => 33 | 0 => 0 | 44 => 283 | 46 => 22 | 4 => 4 | 36 => 277 | 35 => 276 | 41 => 30 | 5 => 5 | 9 => 9 | 53 => 319 | 57 => 322 | 63 => 345 | 64 => 346 | n => n, fun | n => n⟩
theorem Tryz.sortB : Go.Proofs.SlLaysM.n5 Tryz.prog Tryz.sortB_ren := {
 mixed := by kernel_rfl
 f5 := ⟨Tryz.f82.name, by decide, Tryz.func82.trans (congrArg some (by kernel_rfl))⟩
 f7 := ⟨Tryz.f132.name, by decide, Tryz.func132.trans (congrArg some (by kernel_rfl))⟩
 f8 := Tryz.func133.trans (congrArg some (by kernel_rfl))
 f10 := ⟨Tryz.f181.name, by decide, Tryz.func181.trans (congrArg some (by kernel_rfl))⟩
 f11 := ⟨Tryz.f182.name, by decide, Tryz.func182.trans (congrArg some (by kernel_rfl))⟩
 f12 := ⟨Tryz.f183.name, by decide, Tryz.func183.trans (congrArg some (by kernel_rfl))⟩
 f13 := ⟨Tryz.f184.name, by decide, Tryz.func184.trans (congrArg some (by kernel_rfl))⟩
 f14 := ⟨Tryz.f185.name, by decide, Tryz.func185.trans (congrArg some (by kernel_rfl))⟩
 f15 := ⟨Tryz.f186.name, by decide, Tryz.func186.trans (congrArg some (by kernel_rfl))⟩
 f16 := ⟨Tryz.f187.name, by decide, Tryz.func187.trans (congrArg some (by kernel_rfl))⟩
 f17 := ⟨Tryz.f188.name, by decide, Tryz.func188.trans (congrArg some (by kernel_rfl))⟩
 f18 := ⟨Tryz.f189.name, by decide, Tryz.func189.trans (congrArg some (by kernel_rfl))⟩
 f19 := Tryz.func190.trans (congrArg some (by kernel_rfl))
 f20 := Tryz.func191.trans (congrArg some (by kernel_rfl))
 f30 := ⟨Tryz.f239.name, by decide, Tryz.func239.trans (congrArg some (by kernel_rfl))⟩
 f31 := Tryz.func240.trans (congrArg some (by kernel_rfl))
 f32 := Tryz.func241.trans (congrArg some (by kernel_rfl))
 f33 := ⟨Tryz.f242.name, by decide, Tryz.func242.trans (congrArg some (by kernel_rfl))⟩
 f34 := ⟨Tryz.f243.name, by decide, Tryz.func243.trans (congrArg some (by kernel_rfl))⟩
 f35 := ⟨Tryz.f202.name, by decide, Tryz.func202.trans (congrArg some (by kernel_rfl))⟩
 f40 := ⟨Tryz.f281.name, by decide, Tryz.func281.trans (congrArg some (by kernel_rfl))⟩
 t0 := Tryz.underlying0
 a0 := Tryz.isAgg0
 z0 := Tryz.sizeOf0
 v0 := Tryz.zeroValue0
 t3 := Tryz.underlying3
 a3 := Tryz.isAgg3
 z3 := Tryz.sizeOf3
 v3 := Tryz.zeroValue3
 t4 := Tryz.underlying4
 a4 := Tryz.isAgg4
 z4 := Tryz.sizeOf4
 v4 := Tryz.zeroValue4
 t5 := Tryz.underlying5
 a5 := Tryz.isAgg5
 z5 := Tryz.sizeOf5
 v5 := Tryz.zeroValue5
 t9 := Tryz.underlying9
 a9 := Tryz.isAgg9
 z9 := Tryz.sizeOf9
 v9 := Tryz.zeroValue9
 t22 := Tryz.underlying33
 a22 := Tryz.isAgg33
 z22 := Tryz.sizeOf33
 v22 := Tryz.zeroValue33
 t23 := Tryz.underlying33
 a23 := Tryz.isAgg33
 z23 := Tryz.sizeOf33
 v23 := Tryz.zeroValue33
 t25 := Tryz.underlying3
 a25 := Tryz.isAgg3
 z25 := Tryz.sizeOf3
 v25 := Tryz.zeroValue3
 t32 := Tryz.underlying40
 a32 := Tryz.isAgg40
 z32 := Tryz.sizeOf40
 v32 := Tryz.zeroValue40
 t35 := Tryz.underlying276
 a35 := Tryz.isAgg276
 z35 := Tryz.sizeOf276
 v35 := Tryz.zeroValue276
 t36 := Tryz.underlying277
 a36 := Tryz.isAgg277
 z36 := Tryz.sizeOf277
 v36 := Tryz.zeroValue277
 t41 := Tryz.underlying30
 a41 := Tryz.isAgg30
 z41 := Tryz.sizeOf30
 v41 := Tryz.zeroValue30
 t44 := Tryz.underlying283
 a44 := Tryz.isAgg283
 z44 := Tryz.sizeOf283
 v44 := Tryz.zeroValue283
 t46 := Tryz.underlying22
 a46 := Tryz.isAgg22
 z46 := Tryz.sizeOf22
 v46 := Tryz.zeroValue22
 t53 := Tryz.underlying319
 a53 := Tryz.isAgg319
 z53 := Tryz.sizeOf319
 v53 := Tryz.zeroValue319
 t57 := Tryz.underlying322
 a57 := Tryz.isAgg322
 z57 := Tryz.sizeOf322
 v57 := Tryz.zeroValue322
 t63 := Tryz.underlying345
 a63 := Tryz.isAgg345
 z63 := Tryz.sizeOf345
 v63 := Tryz.zeroValue345
 t64 := Tryz.underlying346
 a64 := Tryz.isAgg346
 z64 := Tryz.sizeOf346
 v64 := Tryz.zeroValue346 }
end Go.Proofs
