/- A bundle of texts: Kn08M. -/
import Derived.Test.YtjoomgojnpcbeaaDoorK17
import Derived.Test.YtjoomgojnpcbeaaDoorK18
import Derived.Test.YtjoomgojnpcbeaaDoorK02
import Derived.KernelRfl
section
namespace Go.Proofs.YtjoomgojnpcbeaaDoor
set_option maxRecDepth 100000
namespace Ge
open Bs Dg Gh
def rowsOf (n : Nat) (E : List Ed) : List Nat := (List.range n).map fun a : Nat => ofP (fun b : Nat => has E a b) n
theorem ER.rows {n : Nat} {E : List Ed} {R : List Nat} (h : ER n E R) : R = rowsOf n E := by
  have hl := h.len
  refine List.ext_getElem (by simp [rowsOf, hl]) fun a h1 h2 => ?_
  simp only [rowsOf, List.getElem_map, List.getElem_range]
  apply ext_bit
  intro b
  rw [ofP_bit, ← h.bit, show row R a = R[a] from by unfold row; rw [List.getD_eq_getElem?_getD, List.getElem?_eq_getElem h1]; rfl]
  cases hb : R[a].testBit b with
  | false => simp
  | true =>
    have := h.fit a b (by rw [show row R a = R[a] from by unfold row; rw [List.getD_eq_getElem?_getD, List.getElem?_eq_getElem h1]; rfl]; exact hb)
    rw [decide_eq_true (by omega)]; rfl
def kl : List (Int × Int) := [(0, 1), (1, 2), (2, 0), (2, 3), (3, 4)]
def kE : List Ed := [(0, 1), (1, 2), (2, 0), (2, 3), (3, 4)]
def kR : List Nat := [6, 5, 11, 20, 8, 0]
theorem k_bld : bld 6 kl = kE := by kernel_rfl
theorem k_rows : rowsOf 6 kE = kR := by kernel_rfl
theorem k_blks : blks kR = [[0, 1, 2], [2, 3], [3, 4]] := by kernel_rfl
theorem k_cuts : cuts kR = [2, 3] := by kernel_rfl
theorem k_comps : comps kE (List.range 6) = [[0, 1, 2, 3, 4], [5]] := by kernel_rfl
theorem k_rem : rem kE 6 6 = ([5, 4, 3, 0, 1, 2], [], 2) := by kernel_rfl
theorem k_cliq : cliq kE 6 = [0, 1, 2] := by kernel_rfl
theorem k_col : nfl 6 (colE kE [0, 1, 2, 3, 4, 5] 6).2 = [0, 1, 2, 0, 1, 0] := by kernel_rfl
theorem k_ok : okO 6 0 [0, 1, 2, 3, 4, 5] = true := by kernel_rfl
theorem k_deg : cnt (row kR 2) = 3 := by kernel_rfl
theorem k_er {R : List Nat} (h : ER 6 (bld 6 kl) R) : ER 6 kE kR ∧ R = kR := by
  rw [k_bld] at h
  have := h.rows
  rw [k_rows] at this
  exact ⟨this ▸ h, this⟩
theorem k_er0 : ER 6 kE kR := by
  have h := (((((ER.nil (n := 6) (by decide)).push (a := 0) (b := 1) (by decide) (by decide) (by decide)).push (a := 1) (b := 2) (by decide) (by decide) (by decide)).push (a := 2) (b := 0) (by decide) (by decide) (by decide)).push (a := 2) (b := 3) (by decide) (by decide) (by decide)).push (a := 3) (b := 4) (by decide) (by decide) (by decide)
  have e := h.rows
  rw [show rowsOf 6 ([] ++ [(0, 1)] ++ [(1, 2)] ++ [(2, 0)] ++ [(2, 3)] ++ [(3, 4)]) = kR from k_rows] at e
  rw [e] at h
  exact h
theorem k_cmps : cmps kR = [[0, 1, 2, 3, 4], [5]] := by rw [← k_er0.comps]; exact k_comps
theorem k_rmv : (rmv kR 6).1 = [5, 4, 3, 0, 1, 2] ∧ (rmv kR 6).2.2 = 2 := by
  have h := k_er0.rem 6 (Nat.le_refl _)
  rw [k_rem] at h
  exact ⟨(congrArg (·.1) h).symm, (congrArg (·.2.2) h).symm⟩
theorem k_clq : els (clq kR) 0 = [0, 1, 2] := by rw [← k_er0.cliq]; exact k_cliq
theorem k_colF : nfl 6 (colF kR [0, 1, 2, 3, 4, 5]).2 = [0, 1, 2, 0, 1, 0] := by
  have h := k_er0.col (o := [0, 1, 2, 3, 4, 5]) (by decide) 6 (by decide)
  rw [List.take_of_length_le (by decide)] at h
  rw [← h]
  exact k_col
theorem k_has : hasB kR 9 0 = false := by kernel_rfl
end Ge
end Go.Proofs.YtjoomgojnpcbeaaDoor
end
