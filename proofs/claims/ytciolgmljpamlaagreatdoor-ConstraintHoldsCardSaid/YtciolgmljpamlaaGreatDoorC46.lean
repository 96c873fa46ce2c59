/- A bundle of texts: RuOpen. -/
import Derived.Test.YtciolgmljpamlaaGreatDoorC45
import Derived.Test.YtciolgmljpamlaaGreatDoorC08
section
namespace Go.Proofs.YtciolgmljpamlaaGreatDoor
open Go.ChangeShapes Go.WideShapes Go.RowKit Go.Deep
set_option maxRecDepth 100000
section
variable {H : Type} {enc : TypeId × Value → H} {w : World} {base : Nat} {spare : Nat → Bool} {held : Bool}
theorem open_stationsB {b0 : Nat} {r : Reach} {v : Value} {d : DataW H} {p : List MemPlace} (hv : Value.okWide Tryz.prog w r b0 25 v) (h : DataW.Trod enc Tryz.prog w base spare held 25 v d p) :
  ∃ (A : Option Addr) (c : Nat) (es : List SE), v = .slice A es.length c ∧ Sl 8 secell w w.heap.size A es ∧ Pats w es ∧ ∀ e ∈ es, e.s.pat.length ≤ 9223372036854775807 := by
 obtain ⟨A, c, es, e, hS, _, _, hR⟩ := open_list (size := 8) (cell := secell) (R := fun e => Sl 1 icell w w.heap.size e.A e.s.pat ∧ e.s.pat.length ≤ 9223372036854775807) Tryz.underlying25 (by kernel_rfl) (by decide) (fun n cs x hx => by
  obtain ⟨s, A, c, rfl, hS, h1, h2⟩ := st_cells hx
  refine ⟨⟨s, A, c⟩, ⟨hS, Nat.le_trans h1 (by unfold maxLen at h2; omega)⟩, fun j hj => ?_⟩
  match j, hj with
  | 0, _ | 1, _ | 2, _ | 3, _ | 4, _ | 5, _ | 6, _ | 7, _ => rfl) hv h
 exact ⟨A, c, es, e, hS, fun e he => (hR e he).1, fun e he => (hR e he).2⟩
end
end Go.Proofs.YtciolgmljpamlaaGreatDoor
end
