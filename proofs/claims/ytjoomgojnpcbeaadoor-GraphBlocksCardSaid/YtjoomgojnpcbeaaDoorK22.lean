/- A bundle of texts: RuMath. -/
import Derived.Lib.Small
import Derived.Test.YtjoomgojnpcbeaaDoorK03
section
namespace Go.Proofs.YtjoomgojnpcbeaaDoor
open Go
structure P5 where
 a : Int
 b : Int
 c : Int
 d : Int
 e : Int
 deriving DecidableEq
structure P4 where
 a : Int
 b : Int
 c : Int
 d : Int
 deriving DecidableEq
def P5.l (p : P5) : List Int := [p.a, p.b, p.c, p.d, p.e]
def P4.l (p : P4) : List Int := [p.a, p.b, p.c, p.d]
namespace M
theorem cI_zero {x y : Int} : Lib.compareInt x y = 0 ↔ x = y := by
 unfold Lib.compareInt; (repeat' split) <;> omega
end M
end Go.Proofs.YtjoomgojnpcbeaaDoor
end
