/- A bundle of texts: BuB. -/
import Derived.Test.YtciolgmljpamlaaGreatDoorB27
import Derived.Test.YtciolgmljpamlaaGreatDoorB29
import Derived.Test.YtciolgmljpamlaaGreatDoorB32
import Derived.Test.YtciolgmljpamlaaGreatDoorB28
/- Layer 16: what the program builds is what the document's words build. -/
section
namespace Go.Proofs.YtciolgmljpamlaaGreatDoor
open Go Go.RowKit
/-- A station as it would be in a band. -/
def M.inB (b : Int) (s : St) : St := ⟨s.id, s.x, s.y, s.pw, s.h, s.pat, b, M.chLo b⟩
def M.ppl (W H : Int) (G P : List Int) (s : St) : Int := M.total P (M.area W H G s)
def M.ls0 (W H : Int) (G P : List Int) (s t : St) : Int := M.total P (M.lost W H G s 30 [t])
namespace M
theorem lost_off {W H : Int} {G P : List Int} {a b : St} {r : Int} (hP : ∀ g ∈ P, 0 ≤ g ∧ g ≤ 1000000) (hr : r ≤ 30) (h : total P (lost W H G a 30 [b]) = 0) : total P (lost W H G a r [b]) = 0 := by
  have h1 := total_sub (P := P) (l := lost W H G a r [b]) (l' := lost W H G a 30 [b]) (n := (W * H).toNat) hP lost_inN (fun x hx => by
    rw [lost_mem] at hx ⊢
    obtain ⟨i, e, hi, hc, c, hcm, hd⟩ := hx
    exact ⟨i, e, hi, hc, c, hcm, by omega⟩)
  have h2 : 0 ≤ total P (lost W H G a r [b]) := by
    rw [total_sumB (n := (W * H).toNat) lost_inN]
    have := sumB_mono (P := P) hP (p := fun _ => false) (q := fun i => decide ((i : Int) ∈ lost W H G a r [b])) (n := (W * H).toNat) (fun i _ h => by cases h)
    have h0 : ∀ n, sumB P n (fun _ => false) = 0 := fun n => by
      induction n with
      | zero => rfl
      | succ n ih => rw [sumB_succ, ih]; rfl
    rw [h0] at this
    exact this
  omega
theorem lossO_eq {W H : Int} {G P : List Int} {a b : St} {o : Int} (hP : ∀ g ∈ P, 0 ≤ g ∧ g ≤ 1000000) : lossO W H G P a b (sm W H G P a b) o = total P (lost W H G a (ratio o) [b]) := by
  have hs : sm W H G P a b = total P (lost W H G a 30 [b]) := by unfold sm lossO; rw [if_neg (by decide)]; rfl
  have hr : ratio o ≤ 30 := by unfold ratio; split <;> omega
  unfold lossO
  split
  · rename_i h
    rw [lost_off hP hr (by rw [← hs]; exact h)]
  · rfl
theorem sm_eq (W H : Int) (G P : List Int) (a b : St) : sm W H G P a b = ls0 W H G P a b := by
  unfold sm lossO ls0; rw [if_neg (by decide)]; rfl
theorem prF_eq {W H : Int} {G P : List Int} {a b : St} {o : Int} (hP : ∀ g ∈ P, 0 ≤ g ∧ g ≤ 1000000) : prF W H G P a b (ppl W H G P a) (ppl W H G P b) o = forb W H G P a b o := by
  unfold prF; rw [lossO_eq hP, lossO_eq hP]; rfl
theorem tm_eq (W H : Int) (G P : List Int) (a b : St) : tooMuch (ppl W H G P a) (ppl W H G P b) (sm W H G P a b) (sm W H G P b a) = forb W H G P a b 0 := by
  rw [sm_eq, sm_eq]; rfl
theorem forb_sym (W H : Int) (G P : List Int) (a b : St) : forb W H G P a b 0 = forb W H G P b a 0 := by
  unfold forb; rw [Bool.or_comm]; rfl
theorem prP_eq {W H : Int} {G P : List Int} {a b : St} {lo hi : Int} (hP : ∀ g ∈ P, 0 ≤ g ∧ g ≤ 1000000) : prP W H G P a b (ppl W H G P a) (ppl W H G P b) lo hi = bpT St.id (forb W H G P) lo hi a b := by
  have e1 : max lo (lo - -1) = lo + 1 := by omega
  have e2 : min hi (hi - -1) = hi := by omega
  have e3 : max lo (lo - 0) = lo := by omega
  have e4 : min hi (hi - 0) = hi := by omega
  have e5 : max lo (lo - 1) = lo := by omega
  have e6 : min hi (hi - 1) = hi - 1 := by omega
  unfold prP pr1 pr0 pr2 bpT bpO
  rw [prF_eq hP, prF_eq hP, tm_eq, e1, e2, e3, e4, e5, e6]
theorem prL_eq (W H : Int) (G P : List Int) (a b : St) (lo hi : Int) : prL W H G P a b (ppl W H G P a) (ppl W H G P b) lo hi = ld1 St.id (forb W H G P) (ls0 W H G P) lo hi a b ++ ld1 St.id (forb W H G P) (ls0 W H G P) lo hi b a := by
  unfold prL ld1 ld
  rw [tm_eq, forb_sym W H G P b a, sm_eq, sm_eq]
  split <;> rfl
/-- What is built of stations in a band. -/
def gP (W H : Int) (G P : List Int) (b : Int) (l : List St) : List P5 := bP St.id (forb W H G P) (chLo b) (chHi b) (l.map (inB b))
def gL (W H : Int) (G P : List Int) (b : Int) (l : List St) : List P5 := rL St.id (forb W H G P) (ls0 W H G P) (chLo b) (chHi b) (l.map (inB b))
def gC (W H : Int) (G P : List Int) (b : Int) (l : List St) : List P4 := bC St.id (forb W H G P) (ls0 W H G P) (chLo b) (chHi b) (ppl W H G P) (l.map (inB b))
theorem inB_ok {W H : Int} {G P : List Int} {b : Int} {s : St} (hb : 1 ≤ b ∧ b ≤ 3) (h : okS W H G P s = true) : okS W H G P (inB b s) = true := by
  obtain ⟨h1, h2, h3, h4⟩ := okS_iff.1 h
  obtain ⟨a1, a2, a3, a4, a5, a6, a7⟩ := svalid_iff.1 h1
  refine okS_iff.2 ⟨svalid_iff.2 ⟨a1, a2, a3, a4, ?_, ?_, a7⟩, h2, h3, h4⟩
  · show 2 ≤ chLo b ∧ chLo b ≤ 51
    rcases (show b = 1 ∨ b = 2 ∨ b = 3 by omega) with e | e | e <;> subst e <;> decide
  · show b = band (chLo b)
    rcases (show b = 1 ∨ b = 2 ∨ b = 3 by omega) with e | e | e <;> subst e <;> decide
/-- The stations' numbers rise. -/
def rising (l : List St) : Prop := l.Pairwise fun s t => s.id < t.id
theorem rising_of {l : List St} (h : ∀ k (h : k + 1 < l.length), (l[k]'(by omega)).id < l[k + 1].id) : rising l := by
  unfold rising
  rw [List.pairwise_iff_getElem]
  intro i j hi hj hij
  induction j with
  | zero => omega
  | succ j ih =>
    have h1 := h j hj
    by_cases e : i = j
    · subst e; exact h1
    · have := ih (by omega) (by omega); omega
theorem rising_in {b : Int} {l : List St} (h : rising l) : (l.map (inB b)).Pairwise fun s t => s.id < t.id := by
  rw [List.pairwise_map]; exact h
end M
end Go.Proofs.YtciolgmljpamlaaGreatDoor
end
