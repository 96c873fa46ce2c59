/- Layers 12 and 13 in plain mathematics: antennas and stations. No program in sight. -/
import Derived.Test.YtohkbblfcjmmnaaGreatDoorLossMath
namespace Go.Proofs.YtohkbblfcjmmnaaGreatDoor

/-- A station. -/
structure St where
  id : Int
  x : Int
  y : Int
  pw : Int
  h : Int
  pat : List Int
  band : Int
  ch : Int
  deriving DecidableEq

namespace M
def steps (u v : Int) : Int := if 2 * u ≤ v then 3 else if u ≤ v then 2 else if u ≤ 2 * v then 1 else 0
def dir (dx dy : Int) : Int :=
  if 0 < dx ∧ 0 ≤ dy then steps dx dy else if 0 < dy ∧ 0 ≤ -dx then 4 + steps dy (-dx) else if 0 < -dx ∧ 0 ≤ -dy then 8 + steps (-dx) (-dy) else 12 + steps (-dy) dx
theorem steps_bd (u v : Int) : 0 ≤ steps u v ∧ steps u v ≤ 3 := by unfold steps; repeat' split; all_goals omega
theorem dir_bd (dx dy : Int) : 0 ≤ dir dx dy ∧ dir dx dy ≤ 15 := by
  have h1 := steps_bd dx dy
  have h2 := steps_bd dy (-dx)
  have h3 := steps_bd (-dx) (-dy)
  have h4 := steps_bd (-dy) dx
  unfold dir
  repeat' split
  all_goals omega
def band (ch : Int) : Int := if ch < 2 ∨ 51 < ch then 0 else if ch ≤ 6 then 1 else if ch ≤ 13 then 2 else 3
def avalid (h : Int) (pat : List Int) : Bool := isIn h 1 500 && decide (pat.length = 16) && allIn pat 0 80
def svalid (s : St) : Bool := isIn s.id 0 511 && (isIn s.x 0 63 && isIn s.y 0 63) && isIn s.pw 0 300 && isIn s.ch 2 51 && decide (s.band = band s.ch) && avalid s.h s.pat
theorem avalid_iff {h : Int} {pat : List Int} : avalid h pat = true ↔ (1 ≤ h ∧ h ≤ 500) ∧ pat.length = 16 ∧ ∀ g ∈ pat, 0 ≤ g ∧ g ≤ 80 := by
  unfold avalid allIn
  simp only [Bool.and_eq_true, isIn_iff, decide_eq_true_eq, List.all_eq_true]
  constructor
  · rintro ⟨⟨a, b⟩, c⟩; exact ⟨a, b, c⟩
  · rintro ⟨a, b, c⟩; exact ⟨⟨a, b⟩, c⟩
theorem svalid_iff {s : St} : svalid s = true ↔ (0 ≤ s.id ∧ s.id ≤ 511) ∧ (0 ≤ s.x ∧ s.x ≤ 63) ∧ (0 ≤ s.y ∧ s.y ≤ 63) ∧ (0 ≤ s.pw ∧ s.pw ≤ 300) ∧ (2 ≤ s.ch ∧ s.ch ≤ 51) ∧ s.band = band s.ch ∧ avalid s.h s.pat = true := by
  unfold svalid
  simp only [Bool.and_eq_true, isIn_iff, decide_eq_true_eq]
  constructor
  · rintro ⟨⟨⟨⟨⟨a, b, c⟩, d⟩, e⟩, f⟩, g⟩; exact ⟨a, b, c, d, e, f, g⟩
  · rintro ⟨a, b, c, d, e, f, g⟩; exact ⟨⟨⟨⟨⟨a, b, c⟩, d⟩, e⟩, f⟩, g⟩
def aloss (pat : List Int) (dx dy : Int) : Int := if dx = 0 ∧ dy = 0 then 0 else pat.getD (dir dx dy).toNat 0
theorem aloss_at {pat : List Int} {dx dy : Int} {j : Nat} (h0 : ¬ (dx = 0 ∧ dy = 0)) (hj : dir dx dy = (j : Int)) (h : j < pat.length) : pat[j] = aloss pat dx dy := by
  unfold aloss
  rw [if_neg h0, hj, Int.toNat_natCast]
  simp [h]
theorem aloss_bd {pat : List Int} (h : ∀ g ∈ pat, 0 ≤ g ∧ g ≤ 80) (dx dy : Int) : 0 ≤ aloss pat dx dy ∧ aloss pat dx dy ≤ 80 := by
  unfold aloss
  split
  · omega
  · generalize (dir dx dy).toNat = j
    by_cases hj : j < pat.length
    · have := h pat[j] (List.getElem_mem hj)
      simpa [hj] using this
    · simp [Nat.le_of_not_lt hj]
theorem aloss_zero (pat : List Int) : aloss pat 0 0 = 0 := by unfold aloss; simp
end M
end Go.Proofs.YtohkbblfcjmmnaaGreatDoor
