/- Stations that came in, opened. -/
import Derived.Test.YtohkbblfcjmmnaaGreatDoorStOpen
namespace Go.Proofs.YtohkbblfcjmmnaaGreatDoor
open Go.ChangeShapes Go.WideShapes Go.RowKit Go.Deep
set_option maxRecDepth 100000

section
variable {H : Type} {enc : TypeId × Value → H} {w : World} {base : Nat} {spare : Nat → Bool} {held : Bool}
theorem open_stations {b0 : Nat} {r : Reach} {v : Value} {d : DataW H} {p : List MemPlace} (hv : Value.okWide Tryz.prog w r b0 29 v) (h : DataW.Trod enc Tryz.prog w base spare held 29 v d p) :
    ∃ (A : Option Addr) (c : Nat) (es : List SE), v = .slice A es.length c ∧ Sl 8 secell w w.heap.size A es ∧ Pats w es := by
  obtain ⟨A, c, es, e, hS, _, _, hR⟩ := open_list (size := 8) (cell := secell) (R := fun e => Sl 1 icell w w.heap.size e.A e.s.pat) Tryz.underlying29 (by kernel_rfl) (by decide) (fun n cs x hx => by
    obtain ⟨s, A, c, rfl, hS, _, _⟩ := st_cells hx
    refine ⟨⟨s, A, c⟩, hS, fun j hj => ?_⟩
    match j, hj with
    | 0, _ | 1, _ | 2, _ | 3, _ | 4, _ | 5, _ | 6, _ | 7, _ => rfl) hv h
  exact ⟨A, c, es, e, hS, hR⟩
end
end Go.Proofs.YtohkbblfcjmmnaaGreatDoor
