/- A bundle of texts: LbOpen. -/
import Derived.Test.YtjoomgojnpcbeaaDoorK33
import Derived.Test.YtjoomgojnpcbeaaDoorK29
section
namespace Go.Proofs.YtjoomgojnpcbeaaDoor
open Go.ChangeShapes Go.WideShapes Go.RowKit Go.Deep
set_option maxRecDepth 100000
section
variable {H : Type} {enc : TypeId × Value → H} {w : World} {base : Nat} {spare : Nat → Bool} {held : Bool}
theorem edge_el (n : Nat) (cs : List Value) (x : DataW H × List MemPlace) (h : DataW.trod enc Tryd.prog w base spare held n 51 cs = some x) : ∃ y : Int × Int, ((Lit.int .i64 y.1).wf = true ∧ (Lit.int .i64 y.2).wf = true) ∧ ∀ j, j < 2 → cs[j]? = some (dcell y j) := by
 obtain ⟨ns, rfl, hl, hw⟩ := trod_ints Tryd.underlying51 (by kernel_rfl) (by kernel_rfl) (by kernel_rfl) h
 match ns, hl with
 | [a, b], _ =>
  refine ⟨⟨a, b⟩, ⟨hw a (by simp), hw b (by simp)⟩, fun j hj => ?_⟩
  match j, hj with
  | 0, _ | 1, _ => rfl
theorem open_edges {r : Reach} {b0 : Nat} {v : Value} {d : DataW H} {p : List MemPlace} (hv : Value.okWide Tryd.prog w r b0 22 v) (h : DataW.Trod enc Tryd.prog w base spare held 22 v d p) :
  ∃ (A : Option Addr) (c : Nat) (xs : List (Int × Int)), v = .slice A xs.length c ∧ Sl 2 dcell w w.heap.size A xs := by
 obtain ⟨A, c, xs, e, hS, h1, h2, hR⟩ := open_list (cell := dcell) (R := fun y => (Lit.int .i64 y.1).wf = true ∧ (Lit.int .i64 y.2).wf = true) Tryd.underlying22 (by kernel_rfl) (by decide) edge_el hv h
 exact ⟨A, c, xs, e, hS⟩
end
end Go.Proofs.YtjoomgojnpcbeaaDoor
end
