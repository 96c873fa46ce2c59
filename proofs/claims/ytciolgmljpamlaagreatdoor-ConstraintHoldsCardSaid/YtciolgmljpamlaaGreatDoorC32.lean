/- A bundle of texts: SortK. -/
import Derived.Test.YtciolgmljpamlaaGreatDoorC01
import Derived.Shelf.SlSortCmp.NoneTotal
section
namespace Go.Proofs.YtciolgmljpamlaaGreatDoor
open Go Go.RowKit Go.Sort Go.Proofs
section
variable {α : Type} [Inhabited α] {size : Nat} {cell : α → Nat → Value}
def encL (size : Nat) (cell : α → Nat → Value) (x : α) : List Value := (List.range size).map (cell x)
omit [Inhabited α] in
theorem encL_len (x : α) : (encL size cell x).length = size := by simp [encL]
theorem flatK_flat (hs : 0 < size) (xs : List α) : flatK (encL size cell) size xs.toArray = (flat size cell xs).toArray := by
  apply Array.ext'
  apply List.ext_getElem?
  intro i
  by_cases hi : i < xs.length * size
  · obtain ⟨hd, e⟩ := flat_div (cell := cell) hs hi
    have hm := Nat.mod_lt i hs
    rw [Array.getElem?_toList, Array.getElem?_eq_getElem (by simpa using hi), ← getElem!_pos _ i (by simpa using hi), get_flatK _ _ _ _ (by simpa using hi)]
    simp only [e]
    congr 1
    have e1 : (xs.toArray)[i / size]! = xs[i / size] := by
      rw [getElem!_pos _ _ (by simpa using hd)]; simp
    rw [e1, encL, getElem!_pos _ _ (by simpa using hm)]
    simp
  · rw [List.getElem?_eq_none (by simpa using Nat.le_of_not_lt hi), List.getElem?_eq_none (by simpa [flat_length] using Nat.le_of_not_lt hi)]
theorem holdsK_own {w : World} {base g n cap : Nat} {e : TypeId} {xs : List α} (hs : 0 < size) (h : w.ownsRow base e size (.slice (some ⟨g, 0, none⟩) n cap) n (flat size cell xs)) : HoldsK (encL size cell) size w g 0 xs.toArray := by
  unfold HoldsK
  rw [flatK_flat hs]
  intro j hj
  have hj' : j < (flat size cell xs).length := by simpa using hj
  have hn : j < n * size := by rw [← h.1]; exact hj'
  refine ⟨?_, h.frozenAt _⟩
  rw [Nat.zero_add, h.cellAt _ hn, List.getElem?_eq_getElem hj', getElem!_pos _ _ (by simpa using hj)]
  simp
theorem heap_sortedK {w : World} {g n : Nat} {os : Array Obj} {cur : Array Value} {e : TypeId} {fr : Nat × Nat} (d : Array Value) (hb : w.heap[g]? = some (.cells cur e fr)) :
    (grow (putRow id (Sort.ahead w n) g 0 d) os).heap[g]? = some (.cells (putCells id 0 d cur) e fr) := by
  have hg : g < w.heap.size := (Array.getElem?_eq_some_iff.1 hb).1
  rw [heap_grow_old _ _ (by simpa using hg)]
  simp [putRow, mapBlock, Sort.ahead, Array.getElem?_modify, hb, onCells]
theorem grownBy_sortedK {w : World} {g n : Nat} {os : Array Obj} (d : Array Value) : w.grownBy (grow (putRow id (Sort.ahead w n) g 0 d) os) (some g) := by
  refine ⟨rfl, rfl, rfl, by simp, fun k hk hne => ?_⟩
  rw [heap_grow_old _ _ (by simpa using hk)]
  have : g ≠ k := fun e => hne (by rw [e])
  simp [putRow, mapBlock, Sort.ahead, Array.getElem?_modify, this]
theorem take_putCellsK (cur : Array Value) (ts : List Value) (h : ts.length ≤ cur.size) : (putCells id 0 ts.toArray cur).toList.take ts.length = ts := by
  apply List.ext_getElem?
  intro j
  by_cases hj : j < ts.length
  · rw [List.getElem?_take_of_lt hj, Array.getElem?_toList]
    simp [putCells, hj, show j < cur.size by omega]
  · rw [List.getElem?_take_eq_none (by omega), List.getElem?_eq_none (by omega)]
theorem own_sortedK {w : World} {base g m cap n : Nat} {e : TypeId} {os : Array Obj} {xs ys : List α} (hs : 0 < size) (hl : ys.length = xs.length) (h : w.ownsRow base e size (.slice (some ⟨g, 0, none⟩) m cap) m (flat size cell xs)) :
    (sortWorldK (encL size cell) size w g 0 n ys.toArray os).ownsRow base e size (.slice (some ⟨g, 0, none⟩) m cap) m (flat size cell ys) ∧ w.grownBy (sortWorldK (encL size cell) size w g 0 n ys.toArray os) (some g) := by
  unfold sortWorldK putRowK
  rw [flatK_flat hs]
  refine ⟨?_, grownBy_sortedK _⟩
  rcases h.2 with ⟨h0, _⟩ | ⟨g', cap', cur, hv, hb, hg, hnc, hcm, hcs, _⟩
  · cases h0
  · cases hv
    have hlen : (flat size cell ys).length = m * size := by rw [flat_length, hl, ← flat_length (cell := cell), h.1]
    refine ⟨hlen, .inr ⟨g, cap, _, rfl, hb, heap_sortedK _ hg, hnc, hcm, by simp [putCells, hcs], ?_⟩⟩
    rw [← hlen]
    exact take_putCellsK cur _ (by rw [hlen, hcs]; exact Nat.mul_le_mul_right _ hnc)
end
end Go.Proofs.YtciolgmljpamlaaGreatDoor
end
