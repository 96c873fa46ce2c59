/- A bundle of texts: ShelfA. -/
import Derived.Ground.SlsfProg
import Derived.Shelf.SlSortCmp.NoneTotal
import Derived.Test.YtceobfigfmnacaaDoorProg
section
namespace Go.Proofs.YtceobfigfmnacaaDoor
open Go.Shelf
def sortA_ren : Go.Shelf.Ren := ⟨fun | 6 => 47 | 15 => 68 | 14 => 67 | 28 => 85 | 29 => 86 | 20 => 77 | 21 => 78 | 22 => 79 | 23 => 80 | 24 => 81 | 25 => 82 | 26 => 83 | 27 => 84 | 46 => 93 | 47 => 94 | 48 => 95 | 49 => 96 | 50 => 97 | 57 => 100 | n => n, fun | 22 => 33 | 24 => 39 | 25 => 99 | 3 => 3 | 39 => 115 | 0 => 0 | 53 => 127 | 55 => 77 | 4 => 4 | 46 => 121 | 45 => 120 | 50 => 75 | 5 => 5 | 9 => 9 | 66 => 132 | 70 => 136 | 76 => 139 | 77 => 46 | n => n, fun | n => n⟩
theorem sortA : Go.Proofs.SlLaysF.n6 Tryd.prog sortA_ren := {
 mixed := by kernel_rfl
 f6 := ⟨Tryd.f47.name, by decide, Tryd.func47.trans (congrArg some (by kernel_rfl))⟩
 f14 := ⟨Tryd.f67.name, by decide, Tryd.func67.trans (congrArg some (by kernel_rfl))⟩
 f15 := Tryd.func68.trans (congrArg some (by kernel_rfl))
 f20 := ⟨Tryd.f77.name, by decide, Tryd.func77.trans (congrArg some (by kernel_rfl))⟩
 f21 := ⟨Tryd.f78.name, by decide, Tryd.func78.trans (congrArg some (by kernel_rfl))⟩
 f22 := ⟨Tryd.f79.name, by decide, Tryd.func79.trans (congrArg some (by kernel_rfl))⟩
 f23 := ⟨Tryd.f80.name, by decide, Tryd.func80.trans (congrArg some (by kernel_rfl))⟩
 f24 := ⟨Tryd.f81.name, by decide, Tryd.func81.trans (congrArg some (by kernel_rfl))⟩
 f25 := ⟨Tryd.f82.name, by decide, Tryd.func82.trans (congrArg some (by kernel_rfl))⟩
 f26 := ⟨Tryd.f83.name, by decide, Tryd.func83.trans (congrArg some (by kernel_rfl))⟩
 f27 := ⟨Tryd.f84.name, by decide, Tryd.func84.trans (congrArg some (by kernel_rfl))⟩
 f28 := Tryd.func85.trans (congrArg some (by kernel_rfl))
 f29 := Tryd.func86.trans (congrArg some (by kernel_rfl))
 f46 := ⟨Tryd.f93.name, by decide, Tryd.func93.trans (congrArg some (by kernel_rfl))⟩
 f47 := Tryd.func94.trans (congrArg some (by kernel_rfl))
 f48 := Tryd.func95.trans (congrArg some (by kernel_rfl))
 f49 := ⟨Tryd.f96.name, by decide, Tryd.func96.trans (congrArg some (by kernel_rfl))⟩
 f50 := ⟨Tryd.f97.name, by decide, Tryd.func97.trans (congrArg some (by kernel_rfl))⟩
 f57 := ⟨Tryd.f100.name, by decide, Tryd.func100.trans (congrArg some (by kernel_rfl))⟩
 t0 := Tryd.underlying0
 a0 := Tryd.isAgg0
 z0 := Tryd.sizeOf0
 v0 := Tryd.zeroValue0
 t3 := Tryd.underlying3
 a3 := Tryd.isAgg3
 z3 := Tryd.sizeOf3
 v3 := Tryd.zeroValue3
 t4 := Tryd.underlying4
 a4 := Tryd.isAgg4
 z4 := Tryd.sizeOf4
 v4 := Tryd.zeroValue4
 t5 := Tryd.underlying5
 a5 := Tryd.isAgg5
 z5 := Tryd.sizeOf5
 v5 := Tryd.zeroValue5
 t9 := Tryd.underlying9
 a9 := Tryd.isAgg9
 z9 := Tryd.sizeOf9
 v9 := Tryd.zeroValue9
 t22 := Tryd.underlying33
 a22 := Tryd.isAgg33
 z22 := Tryd.sizeOf33
 v22 := Tryd.zeroValue33
 t25 := Tryd.underlying99
 a25 := Tryd.isAgg99
 z25 := Tryd.sizeOf99
 v25 := Tryd.zeroValue99
 t39 := Tryd.underlying115
 a39 := Tryd.isAgg115
 z39 := Tryd.sizeOf115
 v39 := Tryd.zeroValue115
 t45 := Tryd.underlying120
 a45 := Tryd.isAgg120
 z45 := Tryd.sizeOf120
 v45 := Tryd.zeroValue120
 t46 := Tryd.underlying121
 a46 := Tryd.isAgg121
 z46 := Tryd.sizeOf121
 v46 := Tryd.zeroValue121
 t50 := Tryd.underlying75
 a50 := Tryd.isAgg75
 z50 := Tryd.sizeOf75
 v50 := Tryd.zeroValue75
 t53 := Tryd.underlying127
 a53 := Tryd.isAgg127
 z53 := Tryd.sizeOf127
 v53 := Tryd.zeroValue127
 t55 := Tryd.underlying77
 a55 := Tryd.isAgg77
 z55 := Tryd.sizeOf77
 v55 := Tryd.zeroValue77
 t66 := Tryd.underlying132
 a66 := Tryd.isAgg132
 z66 := Tryd.sizeOf132
 v66 := Tryd.zeroValue132
 t70 := Tryd.underlying136
 a70 := Tryd.isAgg136
 z70 := Tryd.sizeOf136
 v70 := Tryd.zeroValue136
 t76 := Tryd.underlying139
 a76 := Tryd.isAgg139
 z76 := Tryd.sizeOf139
 v76 := Tryd.zeroValue139
 t77 := Tryd.underlying46
 a77 := Tryd.isAgg46
 z77 := Tryd.sizeOf46
 v77 := Tryd.zeroValue46
 a24 := Tryd.isAgg39
 z24 := Tryd.sizeOf39 }
end Go.Proofs.YtceobfigfmnacaaDoor
end
