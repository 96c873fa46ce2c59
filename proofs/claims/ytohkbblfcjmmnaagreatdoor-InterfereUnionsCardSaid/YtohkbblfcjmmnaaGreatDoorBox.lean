/- Boxed arguments and variables: a block that is known whole. -/
import Derived.Test.YtohkbblfcjmmnaaGreatDoorMem
namespace Go.Proofs.YtohkbblfcjmmnaaGreatDoor
open Go Go.RowKit

/-- The block b holds just these cells. -/
def Box (w : World) (b : Nat) (cs : Array Value) (t : TypeId) : Prop := w.heap[b]? = some (.cells cs t (0, 0))
section
variable {w w' : World} {b : Nat} {cs : Array Value} {t : TypeId}
theorem Box.lt (h : Box w b cs t) : b < w.heap.size := by
  unfold Box at h
  exact (Array.getElem?_eq_some_iff.1 h).1
theorem Box.cell (h : Box w b cs t) (i : Nat) {v : Value} (hv : cs[i]? = some v) : w.cell? ⟨b, i, none⟩ = some v := by rw [cell_of_row _ _ _ _ _ _ h]; exact hv
theorem Box.frozen (h : Box w b cs t) (i : Nat) : w.frozen? ⟨b, i, none⟩ = false := frozen_of_row _ _ _ _ _ h
theorem Box.new (w : World) (cs : Array Value) (t : TypeId) : Box (w.alloc (.cells cs t)) w.heap.size cs t := heap_alloc_new w _
theorem Box.alloc (h : Box w b cs t) (o : Obj) : Box (w.alloc o) b cs t := (Below.heap_alloc w o b h.lt).trans h
theorem Box.below (h : Box w b cs t) (hb : Below w.heap.size w w') : Box w' b cs t := (hb.block b h.lt).trans h
theorem Box.belowB {B : Nat} (h : Box w b cs t) (hb : Below B w w') (hB : b < B) : Box w' b cs t := (hb.block b hB).trans h
theorem Box.drewN (h : Box w b cs t) (n : Nat) : Box (w.drewN n) b cs t := h
theorem Box.grown (h : Box w b cs t) {row : Option Nat} (hg : w.grownBy w' row) (hne : some b ≠ row) : Box w' b cs t := (hg.block b h.lt hne).trans h
theorem Box.set_other (h : Box w b cs t) {p : Addr} (hp : b ≠ p.block) (v : Value) : Box (w.setCell p v) b cs t := (heap_setCell_other w p b v hp).trans h
theorem Box.set (h : Box w b cs t) (i : Nat) (v : Value) : Box (w.setCell ⟨b, i, none⟩ v) b (cs.setIfInBounds i v) t := heap_setCell_same w b i _ _ v h
theorem Box.c1 {x : Value} (h : Box w b #[x] t) : w.cell? ⟨b, 0, none⟩ = some x := h.cell 0 rfl
theorem Box.c2 {x y : Value} (h : Box w b #[x, y] t) : w.cell? ⟨b, 0, none⟩ = some x ∧ w.cell? ⟨b, 1, none⟩ = some y := ⟨h.cell 0 rfl, h.cell 1 rfl⟩
theorem Box.c3 {x y z : Value} (h : Box w b #[x, y, z] t) : w.cell? ⟨b, 0, none⟩ = some x ∧ w.cell? ⟨b, 1, none⟩ = some y ∧ w.cell? ⟨b, 2, none⟩ = some z := ⟨h.cell 0 rfl, h.cell 1 rfl, h.cell 2 rfl⟩
theorem Box.c4 {x y z u : Value} (h : Box w b #[x, y, z, u] t) : w.cell? ⟨b, 0, none⟩ = some x ∧ w.cell? ⟨b, 1, none⟩ = some y ∧ w.cell? ⟨b, 2, none⟩ = some z ∧ w.cell? ⟨b, 3, none⟩ = some u := ⟨h.cell 0 rfl, h.cell 1 rfl, h.cell 2 rfl, h.cell 3 rfl⟩
theorem Box.c8 {a b' c d e f g h' : Value} (h : Box w b #[a, b', c, d, e, f, g, h'] t) : w.cell? ⟨b, 0, none⟩ = some a ∧ w.cell? ⟨b, 1, none⟩ = some b' ∧ w.cell? ⟨b, 2, none⟩ = some c ∧ w.cell? ⟨b, 3, none⟩ = some d ∧ w.cell? ⟨b, 4, none⟩ = some e ∧ w.cell? ⟨b, 5, none⟩ = some f ∧ w.cell? ⟨b, 6, none⟩ = some g ∧ w.cell? ⟨b, 7, none⟩ = some h' := ⟨h.cell 0 rfl, h.cell 1 rfl, h.cell 2 rfl, h.cell 3 rfl, h.cell 4 rfl, h.cell 5 rfl, h.cell 6 rfl, h.cell 7 rfl⟩
end
/-- One, two, three boxed arguments: the world behind them. -/
theorem boxes1 (w : World) (c0 : Array Value) (t0 : TypeId) : ∃ W : World, Hid (w.alloc (.cells c0 t0) = W) ∧ Box W w.heap.size c0 t0 ∧ Below w.heap.size w W ∧ W.heap.size = w.heap.size + 1 :=
  ⟨_, Lib.hid rfl, Box.new _ _ _, (Below.refl w.heap.size w).alloc (Nat.le_refl _) _, by simp⟩
theorem boxes2 (w : World) (c0 : Array Value) (t0 : TypeId) (c1 : Array Value) (t1 : TypeId) : ∃ W : World, Hid ((w.alloc (.cells c0 t0)).alloc (.cells c1 t1) = W) ∧ Box W w.heap.size c0 t0 ∧ Box W (w.heap.size + 1) c1 t1 ∧ Below w.heap.size w W ∧ W.heap.size = w.heap.size + 2 := by
  have h1 := Box.new (w.alloc (.cells c0 t0)) c1 t1
  rw [show (w.alloc (.cells c0 t0)).heap.size = w.heap.size + 1 by simp] at h1
  exact ⟨_, Lib.hid rfl, (Box.new _ _ _).alloc _, h1, ((Below.refl w.heap.size w).alloc (Nat.le_refl _) _).alloc (by simp) _, by simp⟩
theorem boxes3 (w : World) (c0 : Array Value) (t0 : TypeId) (c1 : Array Value) (t1 : TypeId) (c2 : Array Value) (t2 : TypeId) : ∃ W : World, Hid (((w.alloc (.cells c0 t0)).alloc (.cells c1 t1)).alloc (.cells c2 t2) = W) ∧ Box W w.heap.size c0 t0 ∧ Box W (w.heap.size + 1) c1 t1 ∧ Box W (w.heap.size + 2) c2 t2 ∧ Below w.heap.size w W ∧ W.heap.size = w.heap.size + 3 := by
  obtain ⟨V, hV, b0, b1, hB, hs⟩ := boxes2 w c0 t0 c1 t1
  have h1 := Box.new V c2 t2
  rw [hs] at h1
  refine ⟨_, Lib.hid rfl, ?_, ?_, ?_, ?_, ?_⟩
  all_goals rw [hV.out]
  · exact b0.alloc _
  · exact b1.alloc _
  · exact h1
  · exact hB.alloc hB.size _
  · simp [hs]
theorem boxes4 (w : World) (c0 : Array Value) (t0 : TypeId) (c1 : Array Value) (t1 : TypeId) (c2 : Array Value) (t2 : TypeId) (c3 : Array Value) (t3 : TypeId) : ∃ W : World, Hid ((((w.alloc (.cells c0 t0)).alloc (.cells c1 t1)).alloc (.cells c2 t2)).alloc (.cells c3 t3) = W) ∧ Box W w.heap.size c0 t0 ∧ Box W (w.heap.size + 1) c1 t1 ∧ Box W (w.heap.size + 2) c2 t2 ∧ Box W (w.heap.size + 3) c3 t3 ∧ Below w.heap.size w W ∧ W.heap.size = w.heap.size + 4 := by
  obtain ⟨V, hV, b0, b1, b2, hB, hs⟩ := boxes3 w c0 t0 c1 t1 c2 t2
  have h1 := Box.new V c3 t3
  rw [hs] at h1
  refine ⟨_, Lib.hid rfl, ?_, ?_, ?_, ?_, ?_, ?_⟩
  all_goals rw [hV.out]
  · exact b0.alloc _
  · exact b1.alloc _
  · exact b2.alloc _
  · exact h1
  · exact hB.alloc hB.size _
  · simp [hs]
theorem add_base (b k : Nat) : (⟨b, 0, none⟩ : Addr).add k = ⟨b, k, none⟩ := by unfold Addr.add; split <;> simp_all
theorem Sl.kept {α : Type} {size : Nat} {cell : α → Nat → Value} {w : World} {A : Option Addr} {xs : List α} {u : Kept w.heap.size w} (h : Sl size cell w w.heap.size A xs) : Sl size cell u.val u.val.heap.size A xs := (h.below u.h).more u.h.size
/-- A slice over a block that is known whole. -/
theorem Sl.of_box {α : Type} {size : Nat} {cell : α → Nat → Value} {w : World} {b : Nat} {cs : Array Value} {t : TypeId} {xs : List α} (hb : Box w b cs t) (h : cs.toList = flat size cell xs) :
    Sl size cell w w.heap.size (some ⟨b, 0, none⟩) xs := by
  intro k hk
  refine ⟨_, rfl, hb.lt, fun j hj => ?_⟩
  have e1 : (⟨b, 0, none⟩ : Addr).add (k * size + j) = ⟨b, k * size + j, none⟩ := by unfold Addr.add; split <;> simp_all
  rw [e1, cell_of_row _ _ _ _ _ _ hb, ← Array.getElem?_toList, h, flat_at hk hj]
end Go.Proofs.YtohkbblfcjmmnaaGreatDoor
