/- A bundle of texts: Ref15, Ref15b, HoMath, UnMath, Peo. -/
import Derived.Test.YtciolgmljpamlaaGreatDoorB22
section
namespace Go.Proofs.YtciolgmljpamlaaGreatDoor
open Go Go.RowKit
set_option maxRecDepth 100000
def M.small (W H : Int) (gl pl : Nat) (n : Int) (l : List St) : Bool := (l.all fun s => decide (s.pat.length ≤ 20)) && (decide (W ≤ 64) && decide (H ≤ 64) && decide (-64 ≤ W) && decide (-64 ≤ H) && decide (W * H ≤ n) && decide ((gl : Int) ≤ n) && decide ((pl : Int) ≤ n))
def M.allowed (W H : Int) (G P : List Int) (l : List St) : Bool := M.tvalid W H G P && l.all (M.okS W H G P)
end Go.Proofs.YtciolgmljpamlaaGreatDoor
end

section
namespace Go.Proofs.YtciolgmljpamlaaGreatDoor
open Go Go.RowKit
set_option maxRecDepth 100000
end Go.Proofs.YtciolgmljpamlaaGreatDoor
end

section
namespace Go.Proofs.YtciolgmljpamlaaGreatDoor
namespace M
def pv (P : List Int) (x : Int) : Int := P.getD x.toNat 0
end M
end Go.Proofs.YtciolgmljpamlaaGreatDoor
end

section
namespace Go.Proofs.YtciolgmljpamlaaGreatDoor
namespace M
def sumB (P : List Int) (n : Nat) (p : Nat → Bool) : Int := ((List.range n).map fun i => if p i then P.getD i 0 else 0).sum
theorem sumB_zero (P : List Int) (p : Nat → Bool) : sumB P 0 p = 0 := rfl
theorem sumB_succ (P : List Int) (n : Nat) (p : Nat → Bool) : sumB P (n + 1) p = sumB P n p + if p n then P.getD n 0 else 0 := by
  unfold sumB
  rw [List.range_succ, List.map_append, List.sum_append]
  simp
theorem sumB_congr {P : List Int} {p q : Nat → Bool} : ∀ {n : Nat}, (∀ i, i < n → p i = q i) → sumB P n p = sumB P n q
  | 0, _ => rfl
  | n + 1, h => by rw [sumB_succ, sumB_succ, sumB_congr (fun i hi => h i (by omega)), h n (by omega)]
theorem getD_nonneg {P : List Int} (hP : ∀ g ∈ P, 0 ≤ g ∧ g ≤ 1000000) (i : Nat) : 0 ≤ P.getD i 0 := by
  by_cases hj : i < P.length
  · have := hP P[i] (List.getElem_mem hj)
    simp [hj]; omega
  · simp [Nat.le_of_not_lt hj]
theorem sumB_mono {P : List Int} (hP : ∀ g ∈ P, 0 ≤ g ∧ g ≤ 1000000) {p q : Nat → Bool} : ∀ {n : Nat}, (∀ i, i < n → p i = true → q i = true) → sumB P n p ≤ sumB P n q
  | 0, _ => by simp [sumB_zero]
  | n + 1, h => by
    have ih := sumB_mono hP (n := n) (fun i hi => h i (by omega))
    have g := getD_nonneg hP n
    rw [sumB_succ, sumB_succ]
    by_cases hp : p n = true
    · rw [if_pos hp, if_pos (h n (by omega) hp)]; omega
    · rw [if_neg hp]
      split <;> omega
theorem sumB_add1 {P : List Int} {p : Nat → Bool} {x : Nat} (hx : p x = false) : ∀ {n : Nat}, sumB P n (fun i => p i || decide (i = x)) = sumB P n p + if x < n then P.getD x 0 else 0
  | 0 => by simp [sumB_zero]
  | n + 1 => by
    rw [sumB_succ, sumB_succ, sumB_add1 hx]
    by_cases e : n = x
    · subst e
      simp [hx]
    · by_cases h : x < n
      · simp [e, h, show x < n + 1 by omega]; omega
      · simp [e, h, show ¬ x < n + 1 by omega]
theorem totTo_sumB {P l : List Int} {n : Nat} (hin : ∀ x ∈ l, 0 ≤ x ∧ x < (n : Int)) : ∀ k, k ≤ l.length → totTo P l k = sumB P n (fun i => decide ((i : Int) ∈ l.take k))
  | 0, _ => by
    rw [sumB_congr (q := fun _ => false) (fun i _ => by simp)]
    show (0 : Int) = _
    clear hin
    induction n with
    | zero => rfl
    | succ n ih => rw [sumB_succ, ← ih]; rfl
  | k + 1, hk => by
    have hkl : k < l.length := by omega
    have hx := hin l[k] (List.getElem_mem hkl)
    obtain ⟨x, hxe⟩ : ∃ x : Nat, l[k] = (x : Int) := ⟨l[k].toNat, by omega⟩
    rw [totTo_succ hkl, totTo_sumB hin k (by omega), List.take_succ_eq_append_getElem hkl, hxe, Int.toNat_natCast]
    rw [hxe] at hx
    by_cases hm : (x : Int) ∈ l.take k
    · rw [if_pos hm, Int.add_zero]
      refine sumB_congr fun i _ => ?_
      by_cases e : i = x
      · subst e; simp [hm]
      · have : ¬ (i : Int) = (x : Int) := by omega
        simp [this]
    · rw [if_neg hm]
      have := sumB_add1 (P := P) (p := fun i => decide ((i : Int) ∈ l.take k)) (x := x) (by simpa using hm) (n := n)
      rw [if_pos (by omega)] at this
      rw [← this]
      refine sumB_congr fun i _ => ?_
      simp only [List.mem_append, List.mem_singleton, Bool.decide_or]
      congr 1
      by_cases e : i = x
      · subst e; simp
      · have : ¬ (i : Int) = (x : Int) := by omega
        simp [e, this]
theorem total_sumB {P l : List Int} {n : Nat} (hin : ∀ x ∈ l, 0 ≤ x ∧ x < (n : Int)) : total P l = sumB P n (fun i => decide ((i : Int) ∈ l)) := by
  unfold total
  rw [totTo_sumB hin _ (Nat.le_refl _), List.take_length]
theorem total_same {P l l' : List Int} {n : Nat} (hin : ∀ x ∈ l, 0 ≤ x ∧ x < (n : Int)) (h : ∀ x, x ∈ l ↔ x ∈ l') : total P l = total P l' := by
  rw [total_sumB hin, total_sumB (fun x hx => hin x ((h x).2 hx))]
  exact sumB_congr fun i _ => by simp [h]
theorem total_sub {P l l' : List Int} {n : Nat} (hP : ∀ g ∈ P, 0 ≤ g ∧ g ≤ 1000000) (hin : ∀ x ∈ l', 0 ≤ x ∧ x < (n : Int)) (h : ∀ x, x ∈ l → x ∈ l') : total P l ≤ total P l' := by
  rw [total_sumB hin, total_sumB (fun x hx => hin x (h x hx))]
  exact sumB_mono hP fun i _ hi => by simpa using h _ (by simpa using hi)
theorem lost_mem {W H : Int} {G : List Int} {a : St} {r : Int} {l : List St} {x : Int} : x ∈ lost W H G a r l ↔ ∃ i : Nat, x = i ∧ i < (W * H).toNat ∧ cov W G a (cx W i) (cy W i) = true ∧ ∃ b ∈ l, field W G a (cx W i) (cy W i) - field W G b (cx W i) (cy W i) < r := by
  unfold lost dist
  constructor
  · intro h
    obtain ⟨i, hi, rfl⟩ := List.mem_map.1 h
    obtain ⟨h1, h2⟩ := List.mem_filter.1 hi
    rw [Bool.and_eq_true, List.any_eq_true] at h2
    obtain ⟨b, hb, hd⟩ := h2.2
    exact ⟨i, rfl, List.mem_range.1 h1, h2.1, b, hb, by simpa using hd⟩
  · rintro ⟨i, rfl, h1, h2, b, hb, hd⟩
    refine List.mem_map.2 ⟨i, List.mem_filter.2 ⟨List.mem_range.2 h1, ?_⟩, rfl⟩
    rw [Bool.and_eq_true, List.any_eq_true]
    exact ⟨h2, b, hb, by simpa using hd⟩
theorem lost_inN {W H : Int} {G : List Int} {a : St} {r : Int} {l : List St} : ∀ x ∈ lost W H G a r l, 0 ≤ x ∧ x < ((W * H).toNat : Int) := fun x hx => by have := lost_in x hx; omega
theorem totl_bd {P l : List Int} (hP : ∀ g ∈ P, 0 ≤ g ∧ g ≤ 1000000) (hl : l.length ≤ 100000) : 0 ≤ total P l ∧ total P l ≤ 100000000000 := by
  have := totTo_bd (l := l) hP l.length
  unfold total
  omega
end M
end Go.Proofs.YtciolgmljpamlaaGreatDoor
end

section
namespace Go.Proofs.YtciolgmljpamlaaGreatDoor
open Go Go.RowKit
set_option maxRecDepth 100000
end Go.Proofs.YtciolgmljpamlaaGreatDoor
end
