/- A bundle of texts: TerOpen. -/
import Derived.Test.YtciolgmljpamlaaGreatDoorC43
import Derived.Test.YtciolgmljpamlaaGreatDoorC10
section
namespace Go.Proofs.YtciolgmljpamlaaGreatDoor
open Go.ChangeShapes Go.WideShapes Go.RowKit Go.Deep
set_option maxRecDepth 100000
theorem open_terrain {H : Type} {enc : TypeId × Value → H} {w : World} {base b0 : Nat} {spare : Nat → Bool} {held : Bool} {r : Reach} {v : Value} {d : DataW H} {p : List MemPlace} (hv : Value.okWide Tryz.prog w r b0 24 v) (h : DataW.Trod enc Tryz.prog w base spare held 24 v d p) :
  ∃ (W Hh : Int) (GA PA : Option Addr) (gc pc : Nat) (G P : List Int), v = tv W Hh GA PA G.length gc P.length pc ∧ Sl 1 icell w w.heap.size GA G ∧ Sl 1 icell w w.heap.size PA P ∧ (G.length ≤ gc ∧ gc ≤ maxLen) ∧ (P.length ≤ pc ∧ pc ≤ maxLen) := by
 obtain ⟨cs, rfl, hsz⟩ := okWide_struct Tryz.underlying24 hv
 obtain ⟨fuel, hf⟩ := h
 rw [show (Value.agg cs).cells = cs from rfl] at hf
 have hl := trod_len Tryz.underlying24 hf
 obtain ⟨_, _, f0⟩ := trod_field Tryz.underlying24 hf 0 3 0 1 rfl (by kernel_rfl)
 obtain ⟨_, _, f1⟩ := trod_field Tryz.underlying24 hf 1 3 1 1 rfl (by kernel_rfl)
 obtain ⟨_, _, f2⟩ := trod_field Tryz.underlying24 hf 2 22 2 1 rfl (by kernel_rfl)
 obtain ⟨_, _, f3⟩ := trod_field Tryz.underlying24 hf 3 22 3 1 rfl (by kernel_rfl)
 rw [show Tryz.prog.cellsOf 24 = 4 by kernel_rfl] at hl
 obtain ⟨x0, x1, x2, x3, e⟩ : ∃ x0 x1 x2 x3, cs.toList = [x0, x1, x2, x3] := by
  match hh : cs.toList, hl with
  | [x0, x1, x2, x3], _ => exact ⟨x0, x1, x2, x3, rfl⟩
 rw [e] at f0 f1 f2 f3
 simp only [List.drop_zero, List.drop_succ_cons, List.take_succ_cons, List.take_zero] at f0 f1 f2 f3
 obtain ⟨W, e0, _, _⟩ := DataW.trod_int Tryz.underlying3 f0
 obtain ⟨Hh, e1, _, _⟩ := DataW.trod_int Tryz.underlying3 f1
 obtain ⟨GA, gc, G, e2, hg, hgl, hgc, _⟩ := trod_list (cell := icell) Tryz.underlying22 (by kernel_rfl) (by decide) (int_el Tryz.underlying3) f2
 obtain ⟨PA, pc, P, e3, hp, hpl, hpc, _⟩ := trod_list (cell := icell) Tryz.underlying22 (by kernel_rfl) (by decide) (int_el Tryz.underlying3) f3
 refine ⟨W, Hh, GA, PA, gc, pc, G, P, ?_, hg, hp, ⟨hgl, hgc⟩, ⟨hpl, hpc⟩⟩
 have : cs = #[x0, x1, x2, x3] := by apply Array.ext'; simpa using e
 rw [this]
 simp only [List.cons.injEq, and_true] at e0 e1 e2 e3
 rw [e0, e1, e2, e3]
end Go.Proofs.YtciolgmljpamlaaGreatDoor
end
