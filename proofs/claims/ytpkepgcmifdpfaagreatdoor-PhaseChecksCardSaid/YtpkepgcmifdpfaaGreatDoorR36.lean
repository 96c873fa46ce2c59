/- A bundle of texts: GyM. -/
import Derived.Test.YtpkepgcmifdpfaaGreatDoorR34
import Derived.Test.YtpkepgcmifdpfaaGreatDoorR30
section
namespace Go.Proofs.YtpkepgcmifdpfaaGreatDoor
open Go
namespace M
def fitN (t : Tr) (plan : List (List Int)) (g : List Int) : Nat → Nat → Option Nat
  | 0, _ => none
  | m + 1, k => if k < plan.length then (if small t (plan.getD k [] ++ g) = true then some k else fitN t plan g m (k + 1)) else none
def fit (t : Tr) (plan : List (List Int)) (g : List Int) (k : Nat) : Option Nat := fitN t plan g (plan.length - k) k
theorem fit_end {t : Tr} {plan : List (List Int)} {g : List Int} {k : Nat} (h : ¬ k < plan.length) : fit t plan g k = none := by
  unfold fit
  cases plan.length - k with
  | zero => rfl
  | succ m => unfold fitN; rw [if_neg h]
theorem fit_yes {t : Tr} {plan : List (List Int)} {g : List Int} {k : Nat} (h : k < plan.length) (hs : small t (plan.getD k [] ++ g) = true) : fit t plan g k = some k := by
  unfold fit
  obtain ⟨m, hm⟩ : ∃ m, plan.length - k = m + 1 := ⟨plan.length - k - 1, by omega⟩
  rw [hm]
  unfold fitN
  rw [if_pos h, if_pos hs]
theorem fit_no {t : Tr} {plan : List (List Int)} {g : List Int} {k : Nat} (h : k < plan.length) (hs : small t (plan.getD k [] ++ g) = false) : fit t plan g k = fit t plan g (k + 1) := by
  unfold fit
  obtain ⟨m, hm⟩ : ∃ m, plan.length - k = m + 1 := ⟨plan.length - k - 1, by omega⟩
  rw [hm]
  conv => lhs; unfold fitN
  rw [if_pos h, if_neg (by rw [hs]; decide), show plan.length - (k + 1) = m by omega]
theorem fit_some {t : Tr} {plan : List (List Int)} {g : List Int} {k j : Nat} (h : fit t plan g k = some j) : k ≤ j ∧ j < plan.length ∧ small t (plan.getD j [] ++ g) = true ∧ ∀ i, k ≤ i → i < j → small t (plan.getD i [] ++ g) = false := by
  obtain ⟨m, hm⟩ : ∃ m, plan.length - k = m := ⟨_, rfl⟩
  induction m generalizing k with
  | zero => rw [fit_end (by omega)] at h; cases h
  | succ m ih =>
    have hk : k < plan.length := by omega
    cases hs : small t (plan.getD k [] ++ g) with
    | true => rw [fit_yes hk hs] at h; cases h; exact ⟨Nat.le_refl _, hk, hs, fun i h1 h2 => by omega⟩
    | false =>
      rw [fit_no hk hs] at h
      obtain ⟨h1, h2, h3, h4⟩ := ih h (by omega)
      refine ⟨by omega, h2, h3, fun i h5 h6 => ?_⟩
      by_cases e : i = k
      · subst e; exact hs
      · exact h4 i (by omega) h6
def frst (ins row : List Int) : Int := row.foldl (fun n g => max n (ins.getD g.toNat 0)) 0
def gyStep (t : Tr) (W : List (List Int)) (st : List (List Int) × List Int) (i : Nat) (g : List Int) : List (List Int) × List Int :=
  match fit t st.1 g (frst st.2 (W.getD i [])).toNat with
  | some k => (st.1.set k (st.1.getD k [] ++ g), st.2.set i (k : Nat))
  | none => (st.1 ++ [g], st.2.set i (st.1.length : Nat))
def gyN (t : Tr) (G W : List (List Int)) : Nat → List (List Int) × List Int
  | 0 => ([], List.replicate G.length 0)
  | i + 1 => gyStep t W (gyN t G W i) i (G.getD i [])
def gy (t : Tr) (G W : List (List Int)) : List (List Int) := (gyN t G W G.length).1.map isort
structure GyI (G : List (List Int)) (i : Nat) (st : List (List Int) × List Int) : Prop where
  len : st.1.length ≤ i
  row : ∀ s ∈ st.1, s.length ≤ 512 * i ∧ ∀ x ∈ s, 0 ≤ x ∧ x ≤ 511
  ins : st.2.length = G.length
  bnd : ∀ x ∈ st.2, 0 ≤ x ∧ x ≤ i
theorem GyI.step {t : Tr} {G W : List (List Int)} {i : Nat} {st : List (List Int) × List Int} (h : GyI G i st) {g : List Int} (hg : g.length ≤ 512 ∧ ∀ x ∈ g, 0 ≤ x ∧ x ≤ 511) : GyI G (i + 1) (gyStep t W st i g) := by
  have hset : ∀ k : Nat, k ≤ i → ∀ x ∈ st.2.set i ((k : Nat) : Int), 0 ≤ x ∧ x ≤ ((i + 1 : Nat) : Int) := fun k hk x hx => by
    rcases List.mem_or_eq_of_mem_set hx with h1 | rfl
    · have := h.bnd x h1; omega
    · omega
  unfold gyStep
  split
  · rename_i k hk
    obtain ⟨-, h2, -⟩ := fit_some hk
    have hl := h.len
    refine ⟨by rw [List.length_set]; omega, fun s hs => ?_, by rw [List.length_set]; exact h.ins, hset k (by omega)⟩
    rcases List.mem_or_eq_of_mem_set hs with h1 | rfl
    · obtain ⟨h3, h4⟩ := h.row s h1
      exact ⟨by omega, h4⟩
    · have hm : st.1.getD k [] ∈ st.1 := by
        rw [List.getD_eq_getElem?_getD, List.getElem?_eq_getElem h2]
        exact List.getElem_mem h2
      obtain ⟨h3, h4⟩ := h.row _ hm
      refine ⟨by rw [List.length_append]; omega, fun x hx => ?_⟩
      rcases List.mem_append.1 hx with h5 | h5
      · exact h4 x h5
      · exact hg.2 x h5
  · have hl := h.len
    refine ⟨by simp only [List.length_append, List.length_cons, List.length_nil]; omega, fun s hs => ?_, by rw [List.length_set]; exact h.ins, hset st.1.length (by omega)⟩
    rcases List.mem_append.1 hs with h1 | h1
    · obtain ⟨h3, h4⟩ := h.row s h1
      exact ⟨by omega, h4⟩
    · rw [List.mem_singleton.1 h1]
      exact ⟨by omega, hg.2⟩
theorem GyI.all {t : Tr} {G W : List (List Int)} (hg : ∀ g ∈ G, g.length ≤ 512 ∧ ∀ x ∈ g, 0 ≤ x ∧ x ≤ 511) : ∀ i, i ≤ G.length → GyI G i (gyN t G W i)
  | 0, _ => ⟨Nat.le_refl _, fun s hs => (by cases hs), by simp [gyN], fun x hx => by rw [(List.mem_replicate.1 hx).2]; exact ⟨Int.le_refl _, Int.le_refl _⟩⟩
  | i + 1, h => (GyI.all hg i (by omega)).step (by
      have hi : i < G.length := by omega
      rw [List.getD_eq_getElem?_getD, List.getElem?_eq_getElem hi]
      exact hg _ (List.getElem_mem hi))
end M
end Go.Proofs.YtpkepgcmifdpfaaGreatDoor
end
