/- A bundle of texts: ShelfA. -/
import Derived.Ground.SlsfProg
import Derived.Shelf.SlSortCmp.NoneTotal
import Derived.Test.YtjoomgojnpcbeaaDoorProg
section
namespace Go.Proofs.YtjoomgojnpcbeaaDoor
open Go.Shelf
def sortA_ren : Go.Shelf.Ren := ⟨fun | 6 => 48 | 15 => 68 | 14 => 69 | 28 => 83 | 29 => 84 | 20 => 85 | 21 => 86 | 22 => 87 | 23 => 88 | 24 => 89 | 25 => 90 | 26 => 91 | 27 => 92 | 46 => 99 | 47 => 95 | 48 => 96 | 49 => 100 | 50 => 101 | 57 => 103 | n => n, fun | 22 => 28 | 24 => 31 | 25 => 83 | 3 => 3 | 39 => 92 | 0 => 0 | 53 => 105 | 55 => 60 | 4 => 4 | 46 => 98 | 45 => 97 | 50 => 102 | 5 => 5 | 9 => 9 | 66 => 112 | 70 => 116 | 76 => 120 | 77 => 121 | n => n, fun | n => n⟩
theorem sortA : Go.Proofs.SlLaysF.n6 Tryd.prog sortA_ren := {
 mixed := by kernel_rfl
 f6 := ⟨Tryd.f48.name, by decide, Tryd.func48.trans (congrArg some (by kernel_rfl))⟩
 f14 := ⟨Tryd.f69.name, by decide, Tryd.func69.trans (congrArg some (by kernel_rfl))⟩
 f15 := Tryd.func68.trans (congrArg some (by kernel_rfl))
 f20 := ⟨Tryd.f85.name, by decide, Tryd.func85.trans (congrArg some (by kernel_rfl))⟩
 f21 := ⟨Tryd.f86.name, by decide, Tryd.func86.trans (congrArg some (by kernel_rfl))⟩
 f22 := ⟨Tryd.f87.name, by decide, Tryd.func87.trans (congrArg some (by kernel_rfl))⟩
 f23 := ⟨Tryd.f88.name, by decide, Tryd.func88.trans (congrArg some (by kernel_rfl))⟩
 f24 := ⟨Tryd.f89.name, by decide, Tryd.func89.trans (congrArg some (by kernel_rfl))⟩
 f25 := ⟨Tryd.f90.name, by decide, Tryd.func90.trans (congrArg some (by kernel_rfl))⟩
 f26 := ⟨Tryd.f91.name, by decide, Tryd.func91.trans (congrArg some (by kernel_rfl))⟩
 f27 := ⟨Tryd.f92.name, by decide, Tryd.func92.trans (congrArg some (by kernel_rfl))⟩
 f28 := Tryd.func83.trans (congrArg some (by kernel_rfl))
 f29 := Tryd.func84.trans (congrArg some (by kernel_rfl))
 f46 := ⟨Tryd.f99.name, by decide, Tryd.func99.trans (congrArg some (by kernel_rfl))⟩
 f47 := Tryd.func95.trans (congrArg some (by kernel_rfl))
 f48 := Tryd.func96.trans (congrArg some (by kernel_rfl))
 f49 := ⟨Tryd.f100.name, by decide, Tryd.func100.trans (congrArg some (by kernel_rfl))⟩
 f50 := ⟨Tryd.f101.name, by decide, Tryd.func101.trans (congrArg some (by kernel_rfl))⟩
 f57 := ⟨Tryd.f103.name, by decide, Tryd.func103.trans (congrArg some (by kernel_rfl))⟩
 t0 := Tryd.underlying0
 a0 := Tryd.isAgg0
 z0 := Tryd.sizeOf0
 v0 := Tryd.zeroValue0
 t3 := Tryd.underlying3
 a3 := Tryd.isAgg3
 z3 := Tryd.sizeOf3
 v3 := Tryd.zeroValue3
 t4 := Tryd.underlying4
 a4 := Tryd.isAgg4
 z4 := Tryd.sizeOf4
 v4 := Tryd.zeroValue4
 t5 := Tryd.underlying5
 a5 := Tryd.isAgg5
 z5 := Tryd.sizeOf5
 v5 := Tryd.zeroValue5
 t9 := Tryd.underlying9
 a9 := Tryd.isAgg9
 z9 := Tryd.sizeOf9
 v9 := Tryd.zeroValue9
 t22 := Tryd.underlying28
 a22 := Tryd.isAgg28
 z22 := Tryd.sizeOf28
 v22 := Tryd.zeroValue28
 t25 := Tryd.underlying83
 a25 := Tryd.isAgg83
 z25 := Tryd.sizeOf83
 v25 := Tryd.zeroValue83
 t39 := Tryd.underlying92
 a39 := Tryd.isAgg92
 z39 := Tryd.sizeOf92
 v39 := Tryd.zeroValue92
 t45 := Tryd.underlying97
 a45 := Tryd.isAgg97
 z45 := Tryd.sizeOf97
 v45 := Tryd.zeroValue97
 t46 := Tryd.underlying98
 a46 := Tryd.isAgg98
 z46 := Tryd.sizeOf98
 v46 := Tryd.zeroValue98
 t50 := Tryd.underlying102
 a50 := Tryd.isAgg102
 z50 := Tryd.sizeOf102
 v50 := Tryd.zeroValue102
 t53 := Tryd.underlying105
 a53 := Tryd.isAgg105
 z53 := Tryd.sizeOf105
 v53 := Tryd.zeroValue105
 t55 := Tryd.underlying60
 a55 := Tryd.isAgg60
 z55 := Tryd.sizeOf60
 v55 := Tryd.zeroValue60
 t66 := Tryd.underlying112
 a66 := Tryd.isAgg112
 z66 := Tryd.sizeOf112
 v66 := Tryd.zeroValue112
 t70 := Tryd.underlying116
 a70 := Tryd.isAgg116
 z70 := Tryd.sizeOf116
 v70 := Tryd.zeroValue116
 t76 := Tryd.underlying120
 a76 := Tryd.isAgg120
 z76 := Tryd.sizeOf120
 v76 := Tryd.zeroValue120
 t77 := Tryd.underlying121
 a77 := Tryd.isAgg121
 z77 := Tryd.sizeOf121
 v77 := Tryd.zeroValue121
 a24 := Tryd.isAgg31
 z24 := Tryd.sizeOf31 }
end Go.Proofs.YtjoomgojnpcbeaaDoor
end
