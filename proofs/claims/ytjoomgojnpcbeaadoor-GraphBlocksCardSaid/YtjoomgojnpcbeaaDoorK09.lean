/- A bundle of texts: Step. -/
import Derived.Test.YtjoomgojnpcbeaaDoorK03
import Derived.Deep.RegionLaw
section
namespace Go.Proofs.YtjoomgojnpcbeaaDoor
open Go Go.RowKit
theorem own_empty (w : World) (base : Nat) (e : TypeId) {α : Type} (size : Nat) (cell : α → Nat → Value) (hb : base ≤ w.heap.size) : (w.alloc (.cells #[] e)).ownsRow base e size (.slice (some ⟨w.heap.size, 0, none⟩) 0 0) 0 (flat size cell ([] : List α)) :=
  ⟨by simp [flat], .inr ⟨w.heap.size, 0, #[], rfl, hb, heap_alloc_new w _, Nat.le_refl _, Nat.zero_le _, by simp, by simp [flat]⟩⟩
theorem own_base {w : World} {base base' : Nat} {e : TypeId} {size : Nat} {v : Value} {n : Nat} {xs : List Value} (h : w.ownsRow base e size v n xs) (hb : base' ≤ base) : w.ownsRow base' e size v n xs := by
  refine ⟨h.1, ?_⟩
  rcases h.2 with h2 | ⟨g, cap, cur, h1, h2, h3⟩
  · exact .inl h2
  · exact .inr ⟨g, cap, cur, h1, Nat.le_trans hb h2, h3⟩
end Go.Proofs.YtjoomgojnpcbeaaDoor
end
