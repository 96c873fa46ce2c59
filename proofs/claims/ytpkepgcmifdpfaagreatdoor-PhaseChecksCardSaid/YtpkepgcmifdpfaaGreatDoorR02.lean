/- A bundle of texts: RuMath. -/
import Derived.Lib.Small
import Derived.Test.YtpkepgcmifdpfaaGreatDoorR01
section
namespace Go.Proofs.YtpkepgcmifdpfaaGreatDoor
open Go
structure P5 where
 a : Int
 b : Int
 c : Int
 d : Int
 e : Int
 deriving DecidableEq
structure P4 where
 a : Int
 b : Int
 c : Int
 d : Int
 deriving DecidableEq
abbrev p5c (p : P5) : Array Value := #[.int .i64 p.a, .int .i64 p.b, .int .i64 p.c, .int .i64 p.d, .int .i64 p.e]
abbrev p5v (p : P5) : Value := .agg #[.int .i64 p.a, .int .i64 p.b, .int .i64 p.c, .int .i64 p.d, .int .i64 p.e]
def p5cell (p : P5) (j : Nat) : Value := ((p5c p)[j]?).getD (.int .i64 0)
theorem p5_one (p : P5) (j : Nat) : (p5cell p j).oneCell' = true := by
 rcases j with _ | _ | _ | _ | _ | j <;> rfl
def P5.l (p : P5) : List Int := [p.a, p.b, p.c, p.d, p.e]
def P4.l (p : P4) : List Int := [p.a, p.b, p.c, p.d]
namespace M
end M
end Go.Proofs.YtpkepgcmifdpfaaGreatDoor
end
