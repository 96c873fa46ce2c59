/- A bundle of texts: StOpen, StOpen2. -/
import Derived.Test.YtciolgmljpamlaaGreatDoorC44
import Derived.Test.YtciolgmljpamlaaGreatDoorC19
section
namespace Go.Proofs.YtciolgmljpamlaaGreatDoor
open Go.ChangeShapes Go.WideShapes Go.RowKit Go.Deep
set_option maxRecDepth 100000
section
variable {H : Type} {enc : TypeId × Value → H} {w : World} {base : Nat} {spare : Nat → Bool} {held : Bool}
theorem st_cells {fuel : Nat} {cs : List Value} {x : DataW H × List MemPlace} (hf : DataW.trod enc Tryz.prog w base spare held fuel 40 cs = some x) :
  ∃ (s : St) (A : Option Addr) (c : Nat), cs = (stc s A c).toList ∧ Sl 1 icell w w.heap.size A s.pat ∧ s.pat.length ≤ c ∧ c ≤ maxLen := by
 have hl := trod_len Tryz.underlying40 hf
 rw [show Tryz.prog.cellsOf 40 = 8 by kernel_rfl] at hl
 obtain ⟨_, _, f0⟩ := trod_field Tryz.underlying40 hf 0 3 0 1 rfl (by kernel_rfl)
 obtain ⟨_, _, f1⟩ := trod_field Tryz.underlying40 hf 1 3 1 1 rfl (by kernel_rfl)
 obtain ⟨_, _, f2⟩ := trod_field Tryz.underlying40 hf 2 3 2 1 rfl (by kernel_rfl)
 obtain ⟨_, _, f3⟩ := trod_field Tryz.underlying40 hf 3 3 3 1 rfl (by kernel_rfl)
 obtain ⟨_, _, f4⟩ := trod_field Tryz.underlying40 hf 4 38 4 2 rfl (by kernel_rfl)
 obtain ⟨_, _, f6⟩ := trod_field Tryz.underlying40 hf 5 3 6 1 rfl (by kernel_rfl)
 obtain ⟨_, _, f7⟩ := trod_field Tryz.underlying40 hf 6 3 7 1 rfl (by kernel_rfl)
 obtain ⟨x0, x1, x2, x3, x4, x5, x6, x7, rfl⟩ : ∃ x0 x1 x2 x3 x4 x5 x6 x7, cs = [x0, x1, x2, x3, x4, x5, x6, x7] := by
  match cs, hl with
  | [x0, x1, x2, x3, x4, x5, x6, x7], _ => exact ⟨x0, x1, x2, x3, x4, x5, x6, x7, rfl⟩
 simp only [List.drop_zero, List.drop_succ_cons, List.take_succ_cons, List.take_zero] at f0 f1 f2 f3 f4 f6 f7
 obtain ⟨_, _, g0⟩ := trod_field Tryz.underlying38 f4 0 3 0 1 rfl (by kernel_rfl)
 obtain ⟨_, _, g1⟩ := trod_field Tryz.underlying38 f4 1 22 1 1 rfl (by kernel_rfl)
 simp only [List.drop_zero, List.drop_succ_cons, List.take_succ_cons, List.take_zero] at g0 g1
 obtain ⟨id, e0, _, _⟩ := DataW.trod_int Tryz.underlying3 f0
 obtain ⟨x, e1, _, _⟩ := DataW.trod_int Tryz.underlying3 f1
 obtain ⟨y, e2, _, _⟩ := DataW.trod_int Tryz.underlying3 f2
 obtain ⟨pw, e3, _, _⟩ := DataW.trod_int Tryz.underlying3 f3
 obtain ⟨h, e4, _, _⟩ := DataW.trod_int Tryz.underlying3 g0
 obtain ⟨A, c, pat, e5, hS, hpl, hpc, _⟩ := trod_list (cell := icell) Tryz.underlying22 (by kernel_rfl) (by decide) (int_el Tryz.underlying3) g1
 obtain ⟨bd, e6, _, _⟩ := DataW.trod_int Tryz.underlying3 f6
 obtain ⟨ch, e7, _, _⟩ := DataW.trod_int Tryz.underlying3 f7
 refine ⟨⟨id, x, y, pw, h, pat, bd, ch⟩, A, c, ?_, hS, hpl, hpc⟩
 simp only [List.cons.injEq, and_true] at e0 e1 e2 e3 e4 e5 e6 e7
 rw [e0, e1, e2, e3, e4, e5, e6, e7]
end
end Go.Proofs.YtciolgmljpamlaaGreatDoor
end

section
namespace Go.Proofs.YtciolgmljpamlaaGreatDoor
open Go.ChangeShapes Go.WideShapes Go.RowKit Go.Deep
set_option maxRecDepth 100000
section
variable {H : Type} {enc : TypeId × Value → H} {w : World} {base : Nat} {spare : Nat → Bool} {held : Bool}
end
end Go.Proofs.YtciolgmljpamlaaGreatDoor
end
