/- A bundle of texts: LpOpen. -/
import Derived.Test.YtpkepgcmifdpfaaGreatDoorR45
import Derived.Test.YtpkepgcmifdpfaaGreatDoorR42
section
namespace Go.Proofs.YtpkepgcmifdpfaaGreatDoor
open Go.ChangeShapes Go.WideShapes Go.RowKit Go.Deep
set_option maxRecDepth 100000
section
variable {H : Type} {enc : TypeId × Value → H} {w : World} {base : Nat} {spare : Nat → Bool} {held : Bool}
theorem siw_el (n : Nat) (cs : List Value) (x : DataW H × List MemPlace) (h : DataW.trod enc Tryz.prog w base spare held n 64 cs = some x) : ∃ y : Si, True ∧ ∀ j, j < 2 → cs[j]? = some (sicell y j) := by
 obtain ⟨ns, rfl, hl, hw⟩ := trod_ints Tryz.underlying64 (by kernel_rfl) (by kernel_rfl) (by kernel_rfl) h
 match ns, hl with
 | [a, b], _ =>
  refine ⟨⟨a, b⟩, trivial, fun j hj => ?_⟩
  match j, hj with
  | 0, _ | 1, _ => rfl
theorem open_lists2 {r : Reach} {b0 : Nat} {v : Value} {d : DataW H} {p : List MemPlace} (hv : Value.okWide Tryz.prog w r b0 39 v) (h : DataW.Trod enc Tryz.prog w base spare held 39 v d p) :
  ∃ (A : Option Addr) (c : Nat) (os : List SLc), v = .slice A os.length c ∧ LL w A os ∧ (∀ s ∈ os, ∀ x ∈ s.xs, M.W64 x) ∧ os.length ≤ 9223372036854775807 := by
 obtain ⟨A, c, xs, e, hS, h1, h2, hR⟩ := open_list (cell := slcell) (R := fun y => Sl 1 icell w w.heap.size y.A y.xs ∧ ∀ x ∈ y.xs, M.W64 x) Tryz.underlying39 (by kernel_rfl) (by decide) lists_el hv h
 exact ⟨A, c, xs, e, ⟨hS, fun s hs => (hR s hs).1⟩, fun s hs => (hR s hs).2, by unfold maxLen at h2; omega⟩
theorem open_transit {r : Reach} {b0 : Nat} {v : Value} {d : DataW H} {p : List MemPlace} (hv : Value.okWide Tryz.prog w r b0 28 v) (h : DataW.Trod enc Tryz.prog w base spare held 28 v d p) :
  ∃ (a : TrA) (t : Tr), v = trV a t ∧ TrS w a t := by
 obtain ⟨cs, rfl, hsz⟩ := okWide_struct Tryz.underlying28 hv
 obtain ⟨fuel, hf⟩ := h
 rw [show (Value.agg cs).cells = cs from rfl] at hf
 have hl := trod_len Tryz.underlying28 hf
 obtain ⟨_, _, f0⟩ := trod_field Tryz.underlying28 hf 0 22 0 1 rfl (by kernel_rfl)
 obtain ⟨_, _, f1⟩ := trod_field Tryz.underlying28 hf 1 23 1 1 rfl (by kernel_rfl)
 obtain ⟨_, _, f2⟩ := trod_field Tryz.underlying28 hf 2 24 2 1 rfl (by kernel_rfl)
 obtain ⟨_, _, f3⟩ := trod_field Tryz.underlying28 hf 3 24 3 1 rfl (by kernel_rfl)
 obtain ⟨_, _, f4⟩ := trod_field Tryz.underlying28 hf 4 26 4 2 rfl (by kernel_rfl)
 rw [show Tryz.prog.cellsOf 28 = 6 by kernel_rfl] at hl
 obtain ⟨x0, x1, x2, x3, x4, x5, e⟩ : ∃ x0 x1 x2 x3 x4 x5, cs.toList = [x0, x1, x2, x3, x4, x5] := by
  match hh : cs.toList, hl with
  | [x0, x1, x2, x3, x4, x5], _ => exact ⟨x0, x1, x2, x3, x4, x5, rfl⟩
 rw [e] at f0 f1 f2 f3 f4
 simp only [List.drop_zero, List.drop_succ_cons, List.take_succ_cons, List.take_zero] at f0 f1 f2 f3 f4
 obtain ⟨PA, pc, P, e0, hp, hpl, hpc, hpw⟩ := trod_list (cell := p5cell) (R := M.P5w) Tryz.underlying22 (by kernel_rfl) (by decide) p5w_el f0
 obtain ⟨LA, lc, L, e1, hm, hml, hmc, hmw⟩ := trod_list (cell := mvcell) (R := M.Mvw) Tryz.underlying23 (by kernel_rfl) (by decide) mvw_el f1
 obtain ⟨TA, tc, T, e2, hT, hTl, hTc, -⟩ := trod_list (cell := sicell) (R := fun _ => True) Tryz.underlying24 (by kernel_rfl) (by decide) siw_el f2
 obtain ⟨CA, cc, C, e3, hC, hCl, hCc, -⟩ := trod_list (cell := sicell) (R := fun _ => True) Tryz.underlying24 (by kernel_rfl) (by decide) siw_el f3
 obtain ⟨ns, e4, hl4, -⟩ := trod_ints Tryz.underlying26 (by kernel_rfl) (by kernel_rfl) (by kernel_rfl) f4
 obtain ⟨lm, lw, rfl⟩ : ∃ lm lw, ns = [lm, lw] := by
  match ns, hl4 with
  | [lm, lw], _ => exact ⟨lm, lw, rfl⟩
 refine ⟨⟨PA, pc, LA, lc, TA, tc, CA, cc⟩, ⟨P, L, T, C, lm, lw⟩, ?_, ⟨hp, hm, hT, hC, ints_of hpw hmw⟩⟩
 have : cs = #[x0, x1, x2, x3, x4, x5] := by apply Array.ext'; simpa using e
 rw [this]
 simp only [List.map_cons, List.map_nil, List.cons.injEq, and_true] at e0 e1 e2 e3 e4
 obtain ⟨e4, e5⟩ := e4
 rw [e0, e1, e2, e3, e4, e5]
end
end Go.Proofs.YtpkepgcmifdpfaaGreatDoor
end
