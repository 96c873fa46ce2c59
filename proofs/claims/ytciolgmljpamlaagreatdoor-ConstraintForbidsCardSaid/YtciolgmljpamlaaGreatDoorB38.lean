/- A bundle of texts: Put. -/
import Derived.Test.YtciolgmljpamlaaGreatDoorB01
/- A whole element stored into a row of the call's own. -/
section
namespace Go.Proofs.YtciolgmljpamlaaGreatDoor
open Go Go.RowKit

/-- Values stored in a run. -/
def setRun (w : World) (g o : Nat) : List Value → World
  | [] => w
  | v :: r => setRun (w.setCell ⟨g, o, none⟩ v) g (o + 1) r
def listRun (l : List Value) (o : Nat) : List Value → List Value
  | [] => l
  | v :: r => listRun (l.set o v) (o + 1) r
theorem listRun_length : ∀ (vs : List Value) (l : List Value) (o : Nat), (listRun l o vs).length = l.length
  | [], _, _ => rfl
  | v :: r, l, o => by rw [listRun, listRun_length r]; simp
theorem listRun_at : ∀ (vs : List Value) (l : List Value) (o i : Nat), o + vs.length ≤ l.length → (listRun l o vs)[i]? = if o ≤ i ∧ i < o + vs.length then vs[i - o]? else l[i]?
  | [], l, o, i, _ => by simp [listRun]; intro h; omega
  | v :: r, l, o, i, h => by
    have h' : o + 1 + r.length ≤ l.length := by simp at h; omega
    rw [listRun, listRun_at r (l.set o v) (o + 1) i (by simpa using h')]
    by_cases h1 : o + 1 ≤ i ∧ i < o + 1 + r.length
    · rw [if_pos h1, if_pos (by simp; omega)]
      obtain ⟨u, rfl⟩ : ∃ u, i = o + 1 + u := ⟨i - (o + 1), by omega⟩
      simp [show o + 1 + u - o = u + 1 by omega]
    · rw [if_neg h1]
      by_cases h2 : i = o
      · subst h2
        rw [if_pos (by simp), List.getElem?_set_self (by simp at h; omega)]
        simp
      · rw [if_neg (by simp; omega), List.getElem?_set_ne (Ne.symm h2)]
theorem own_run {base : Nat} {e : TypeId} {size g n cap : Nat} : ∀ (vs : List Value) (w : World) (xs : List Value) (o : Nat), w.ownsRow base e size (.slice (some ⟨g, 0, none⟩) n cap) n xs → (setRun w g o vs).ownsRow base e size (.slice (some ⟨g, 0, none⟩) n cap) n (listRun xs o vs)
  | [], _, _, _, h => h
  | v :: r, _, _, o, h => own_run r _ _ _ (h.stored o v).1
/-- The element k of a row of the call's own is stored whole. -/
theorem own_put {α : Type} {size : Nat} {cell : α → Nat → Value} {w : World} {base : Nat} {e : TypeId} {g n cap : Nat} {xs : List α} (hs : 0 < size) (h : w.ownsRow base e size (.slice (some ⟨g, 0, none⟩) n cap) n (flat size cell xs)) {k : Nat} (hk : k < xs.length) (y : α) :
    (setRun w g (k * size) ((List.range size).map (cell y))).ownsRow base e size (.slice (some ⟨g, 0, none⟩) n cap) n (flat size cell (xs.set k y)) := by
  have h2 := own_run ((List.range size).map (cell y)) w _ (k * size) h
  have hb : k * size + size ≤ xs.length * size := by
    have : (k + 1) * size ≤ xs.length * size := Nat.mul_le_mul_right _ hk
    rwa [Nat.add_mul, Nat.one_mul] at this
  have e2 : listRun (flat size cell xs) (k * size) ((List.range size).map (cell y)) = flat size cell (xs.set k y) := by
    refine flat_ext hs (by rw [listRun_length, flat_length, List.length_set]) fun k' hk' j hj => ?_
    have hk2 : k' < xs.length := by simpa using hk'
    rw [listRun_at _ _ _ _ (by rw [flat_length]; simpa using hb)]
    simp only [List.length_map, List.length_range]
    by_cases e : k = k'
    · subst e
      rw [if_pos (by omega), List.getElem_set_self]
      simp [hj]
    · rw [if_neg (by
        rintro ⟨h3, h4⟩
        rcases Nat.lt_or_ge k k' with h5 | h5
        · have : (k + 1) * size ≤ k' * size := Nat.mul_le_mul_right _ h5
          rw [Nat.add_mul, Nat.one_mul] at this; omega
        · have : (k' + 1) * size ≤ k * size := Nat.mul_le_mul_right _ (by omega)
          rw [Nat.add_mul, Nat.one_mul] at this; omega), List.getElem_set_ne e, flat_at hk2 hj]
  rw [e2] at h2
  exact h2
theorem setRun_grown {w : World} {g : Nat} : ∀ (vs : List Value) {w1 : World} {o : Nat}, w.grownBy w1 (some g) → w.grownBy (setRun w1 g o vs) (some g)
  | [], _, _, h => h
  | v :: r, w1, o, h => setRun_grown (o := o + 1) r ⟨h.os, h.tape, h.output, by simpa using h.size, fun k hk hne => by
      rw [heap_setCell_other w1 ⟨g, o, none⟩ k v (fun e => hne (by simp [e]))]; exact h.block k hk hne⟩
theorem setRun_below {w0 : World} {B g : Nat} (hg : B ≤ g) : ∀ (vs : List Value) {w1 : World} {o : Nat}, Below B w0 w1 → Below B w0 (setRun w1 g o vs)
  | [], _, _, h => h
  | v :: r, _, o, h => setRun_below hg r (h.setCell (p := ⟨g, o, none⟩) hg v)
end Go.Proofs.YtciolgmljpamlaaGreatDoor
end
