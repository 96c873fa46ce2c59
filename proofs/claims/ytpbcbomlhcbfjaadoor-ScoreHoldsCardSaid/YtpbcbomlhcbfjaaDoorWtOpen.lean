/- A weight's cells, read off an argument. -/
import Derived.Test.YtpbcbomlhcbfjaaDoorOpen
import Derived.Test.YtpbcbomlhcbfjaaDoorList
namespace Go.Proofs.YtpbcbomlhcbfjaaDoor
open Go.ChangeShapes Go.WideShapes Go.RowKit Go.Deep

theorem wt_el {H : Type} {enc : TypeId × Value → H} {w : World} {base : Nat} {spare : Nat → Bool} {held : Bool} (n : Nat) (cs : List Value) (x : DataW H × List MemPlace)
    (h : DataW.trod enc Tryd.prog w base spare held n 29 cs = some x) : ∃ y : Wt, True ∧ ∀ j, j < 3 → cs[j]? = some (wcell y j) := by
  obtain ⟨ns, rfl, hl, _⟩ := trod_ints Tryd.underlying29 (by kernel_rfl) (by kernel_rfl) (by kernel_rfl) h
  match ns, hl with
  | [a, b, c], _ =>
    refine ⟨(a, b, c), trivial, fun j hj => ?_⟩
    match j, hj with
    | 0, _ => rfl
    | 1, _ => rfl
    | 2, _ => rfl
end Go.Proofs.YtpbcbomlhcbfjaaDoor
