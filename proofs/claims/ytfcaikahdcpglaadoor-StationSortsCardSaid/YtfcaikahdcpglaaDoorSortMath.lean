/- Sorting stations, in plain mathematics. -/
import Derived.Test.YtfcaikahdcpglaaDoorStMath
namespace Go.Proofs.YtfcaikahdcpglaaDoor
namespace M

/-- The places after k stations: one more than the index of the last station with each number. -/
def plTo (l : List St) : Nat → List Int
  | 0 => List.replicate 512 0
  | k + 1 => match l[k]? with
    | some s => (plTo l k).set s.id.toNat ((k : Int) + 1)
    | none => plTo l k
theorem plTo_len (l : List St) (k : Nat) : (plTo l k).length = 512 := by
  induction k with
  | zero => exact List.length_replicate
  | succ k ih =>
    simp only [plTo]
    split
    · rw [List.length_set, ih]
    · exact ih
theorem plTo_succ {l : List St} {k : Nat} (h : k < l.length) : plTo l (k + 1) = (plTo l k).set l[k].id.toNat ((k : Int) + 1) := by
  simp only [plTo, List.getElem?_eq_getElem h]
/-- Numbers from 0 to 511. -/
def ids (l : List St) : Prop := ∀ s ∈ l, 0 ≤ s.id ∧ s.id ≤ 511
theorem plTo_at {l : List St} (hid : ids l) : ∀ (k : Nat), k ≤ l.length → ∀ (i : Nat) (hi : i < (plTo l k).length),
    ((plTo l k)[i] = 0 ∧ ∀ j (hj : j < l.length), j < k → l[j].id ≠ (i : Int)) ∨ (∃ j, ∃ hj : j < l.length, j < k ∧ l[j].id = (i : Int) ∧ (plTo l k)[i] = (j : Int) + 1)
  | 0, _, i, hi => by left; refine ⟨List.getElem_replicate .., fun j _ h => absurd h (by omega)⟩
  | k + 1, hk, i, hi => by
    have hkl : k < l.length := by omega
    have hi' : i < (plTo l k).length := by rw [plTo_len] at hi ⊢; exact hi
    have hb := hid l[k] (List.getElem_mem hkl)
    have e : (plTo l (k + 1))[i] = ((plTo l k).set l[k].id.toNat ((k : Int) + 1))[i]'(by rw [List.length_set]; exact hi') := by
      simp only [plTo_succ hkl]
    rw [e, List.getElem_set]
    by_cases hc : l[k].id.toNat = i
    · right
      refine ⟨k, hkl, by omega, by omega, ?_⟩
      rw [if_pos hc]
    · rw [if_neg hc]
      rcases plTo_at hid k (by omega) i hi' with ⟨h1, h2⟩ | ⟨j, hj, h1, h2, h3⟩
      · left
        refine ⟨h1, fun j hj hjk => ?_⟩
        by_cases ej : j = k
        · subst ej; omega
        · exact h2 j hj (by omega)
      · right; exact ⟨j, hj, by omega, h2, h3⟩
/-- No two of the first k stations have the same number. -/
def nodupTo (l : List St) (k : Nat) : Prop := ∀ i j (hi : i < l.length) (hj : j < l.length), i < j → j < k → l[i].id ≠ l[j].id
def twice (l : List St) : Bool := decide (¬ (l.map St.id).Nodup)
theorem twice_of {l : List St} {i j : Nat} (hi : i < l.length) (hj : j < l.length) (hij : i < j) (h : l[i].id = l[j].id) : twice l = true := by
  unfold twice
  rw [decide_eq_true_eq]
  intro hn
  have := List.pairwise_iff_getElem.1 hn i j (by simpa using hi) (by simpa using hj) hij
  simp at this
  exact this h
theorem twice_not {l : List St} (h : nodupTo l l.length) : twice l = false := by
  unfold twice
  rw [decide_eq_false_iff_not, Decidable.not_not]
  refine List.pairwise_iff_getElem.2 fun i j hi hj hij => ?_
  have hj' : j < l.length := by simpa using hj
  have hi' : i < l.length := by omega
  simpa using h i j hi' hj' hij hj'
/-- The stations in the order of their numbers. -/
def sortTo (l : List St) (n : Nat) : List St := (List.range n).filterMap fun (i : Nat) => l.find? fun s => decide (s.id = (i : Int))
def sortS (l : List St) : List St := sortTo l 512
theorem sortTo_succ (l : List St) (n : Nat) : sortTo l (n + 1) = sortTo l n ++ (l.find? fun s => decide (s.id = (n : Int))).toList := by
  unfold sortTo
  rw [List.range_succ, List.filterMap_append]
  cases h : l.find? (fun s => decide (s.id = (n : Int))) <;> simp [h]
theorem find_none {l : List St} {n : Int} (h : ∀ j (hj : j < l.length), l[j].id ≠ n) : (l.find? fun s => decide (s.id = n)) = none := by
  rw [List.find?_eq_none]
  intro x hx
  obtain ⟨j, hj, rfl⟩ := List.getElem_of_mem hx
  simpa using h j hj
theorem find_some {l : List St} {n : Int} {k : Nat} (hk : k < l.length) (h : l[k].id = n) (hn : nodupTo l l.length) : (l.find? fun s => decide (s.id = n)) = some l[k] := by
  rw [List.find?_eq_some_iff_getElem]
  refine ⟨by simpa using h, k, hk, rfl, fun j hj => ?_⟩
  have := hn j k (by omega) hk hj hk
  simp
  intro e
  exact this (e.trans h.symm)
theorem sortTo_length_le (l : List St) (n : Nat) : (sortTo l n).length ≤ n := by
  unfold sortTo
  have := List.length_filterMap_le (fun (i : Nat) => l.find? fun s => decide (s.id = (i : Int))) (List.range n)
  simpa using this
def sortR (l : List St) : List St × Int := if (l.all svalid) = true then (if twice l then ([], 11) else (sortS l, 0)) else ([], 2)
end M
end Go.Proofs.YtfcaikahdcpglaaDoor
