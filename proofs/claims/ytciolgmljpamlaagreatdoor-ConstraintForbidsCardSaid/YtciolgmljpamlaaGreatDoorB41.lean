/- A bundle of texts: Kn16M. -/
import Derived.Test.YtciolgmljpamlaaGreatDoorB40
import Derived.Test.YtciolgmljpamlaaGreatDoorB34
/- The examples of layer 16's chapter, reckoned. -/
section
namespace Go.Proofs.YtciolgmljpamlaaGreatDoor
open Go Go.RowKit
set_option maxRecDepth 100000
def M.kA : St := ⟨1, 2, 0, 101, 20, [0, 0, 0, 0, 0, 0, 0, 0, 0, 0, 0, 0, 0, 0, 0, 0], 3, 20⟩
def M.kB : St := ⟨2, 8, 0, 101, 20, [0, 0, 0, 0, 0, 0, 0, 0, 0, 0, 0, 0, 0, 0, 0, 0], 3, 20⟩
def M.kC : St := ⟨3, 8, 0, 82, 20, [0, 0, 0, 0, 0, 0, 0, 0, 0, 0, 0, 0, 0, 0, 0, 0], 3, 20⟩
def M.one : P5 := ⟨1, 2, 0, 14, 51⟩
def M.two : P5 := ⟨1, 2, 0, 2, 6⟩
def M.lone : P5 := ⟨1, 3, 5, 14, 51⟩
def M.cone : P4 := ⟨1, 10, 14, 51⟩
theorem M.k16a : M.forbR 9 1 M.pG M.pP M.kA M.kB 0 = (true, 0) := by decide +kernel
theorem M.k16b : M.forbR 9 1 M.pG M.pP M.kA M.kB 1 = (false, 0) := by decide +kernel
theorem M.k16c : M.forbR 9 1 M.pG M.pP M.kA M.kC 0 = (false, 0) := by decide +kernel
theorem M.k16tv : M.tvalid 9 1 M.pG M.pP = true := by decide +kernel
theorem M.k16oA : M.okS 9 1 M.pG M.pP M.kA = true := by decide +kernel
theorem M.k16oB : M.okS 9 1 M.pG M.pP M.kB = true := by decide +kernel
theorem M.k16oC : M.okS 9 1 M.pG M.pP M.kC = true := by decide +kernel
theorem M.cb2 {x y : St} (hx : M.okS 9 1 M.pG M.pP x = true) (hy : M.okS 9 1 M.pG M.pP y = true) (h : x.id < y.id) : M.cbOk 9 1 M.pG M.pP [x, y] := by
  refine ⟨by simp, M.k16tv, fun k hk => ?_, fun k hk => ?_⟩
  · match k, hk with
    | 0, _ => exact h
  · match k, hk with
    | 0, _ => exact hx
    | 1, _ => exact hy
theorem M.k16ab : M.cbOk 9 1 M.pG M.pP [M.kA, M.kB] := M.cb2 M.k16oA M.k16oB (by decide)
theorem M.k16ac : M.cbOk 9 1 M.pG M.pP [M.kA, M.kC] := M.cb2 M.k16oA M.k16oC (by decide)
theorem M.k16ba : ¬ M.cbOk 9 1 M.pG M.pP [M.kB, M.kA] := fun h => absurd (h.2.2.1 0 (by decide)) (by decide)
theorem M.k16r : (M.gP 9 1 M.pG M.pP 3 [M.kA, M.kB], M.gL 9 1 M.pG M.pP 3 [M.kA, M.kB], M.gC 9 1 M.pG M.pP 3 [M.kA, M.kB]) = ([M.one], [], []) := by decide +kernel
theorem M.k16q : (M.gP 9 1 M.pG M.pP 3 [M.kA, M.kC], M.gL 9 1 M.pG M.pP 3 [M.kA, M.kC], M.gC 9 1 M.pG M.pP 3 [M.kA, M.kC]) = ([], [M.lone], [M.cone]) := by decide +kernel
theorem M.k16j : M.joinR [M.one] [] [] [M.two, M.one] [] [] = (([M.two, M.one], [], []), 0) := by
  have h1 : M.mrg M.cmp5 [M.one] [M.two, M.one] = [M.two, M.one] := by rw [M.mrg_gt (by decide), M.mrg_eq (by decide), M.mrg_nil]
  have h2 : M.mrg M.cmp5 ([] : List P5) [] = [] := M.mrg_nil _ _
  have h3 : M.mrg M.cmp4 ([] : List P4) [] = [] := M.mrg_nil _ _
  rw [M.joinR_of (by decide +kernel) (by decide +kernel) (by rw [h1, h2, h3]; decide +kernel), h1, h2, h3]
theorem M.k16v : M.rvalid [M.two, M.one] [] [] = true := by decide +kernel
theorem M.k16n : M.nbs 2 [M.two, M.one] [] = [1] := by decide +kernel
end Go.Proofs.YtciolgmljpamlaaGreatDoor
end
