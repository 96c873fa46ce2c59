/- A bundle of texts: LdOpen. -/
import Derived.Test.YtpkepgcmifdpfaaGreatDoorR44
import Derived.Test.YtpkepgcmifdpfaaGreatDoorR07
import Derived.Test.YtpkepgcmifdpfaaGreatDoorR25
section
namespace Go.Proofs.YtpkepgcmifdpfaaGreatDoor
open Go.ChangeShapes Go.WideShapes Go.RowKit Go.Deep
set_option maxRecDepth 100000
theorem w64_of {x : Int} (h : (Lit.int .i64 x).wf = true) : M.W64 x := by
 unfold M.W64
 simp [Lit.wf, IntKind.min, IntKind.max, IntKind.signed, IntKind.bits] at h
 omega
section
variable {H : Type} {enc : TypeId × Value → H} {w : World} {base : Nat} {spare : Nat → Bool} {held : Bool}
def M.P5w (p : P5) : Prop := M.W64 p.a ∧ M.W64 p.b ∧ M.W64 p.c ∧ M.W64 p.d ∧ M.W64 p.e
def M.Mvw (m : Mv) : Prop := M.W64 m.st ∧ M.W64 m.old ∧ M.W64 m.new ∧ M.W64 m.tw ∧ M.W64 m.cr ∧ M.W64 m.wk
theorem p5w_el (n : Nat) (cs : List Value) (x : DataW H × List MemPlace) (h : DataW.trod enc Tryz.prog w base spare held n 190 cs = some x) : ∃ y : P5, M.P5w y ∧ ∀ j, j < 5 → cs[j]? = some (p5cell y j) := by
 obtain ⟨ns, rfl, hl, hw⟩ := trod_ints Tryz.underlying190 (by kernel_rfl) (by kernel_rfl) (by kernel_rfl) h
 match ns, hl with
 | [a, b, c, d, e], _ =>
  refine ⟨⟨a, b, c, d, e⟩, ⟨w64_of (hw a (by simp)), w64_of (hw b (by simp)), w64_of (hw c (by simp)), w64_of (hw d (by simp)), w64_of (hw e (by simp))⟩, fun j hj => ?_⟩
  match j, hj with
  | 0, _ | 1, _ | 2, _ | 3, _ | 4, _ => rfl
theorem mvw_el (n : Nat) (cs : List Value) (x : DataW H × List MemPlace) (h : DataW.trod enc Tryz.prog w base spare held n 66 cs = some x) : ∃ y : Mv, M.Mvw y ∧ ∀ j, j < 6 → cs[j]? = some (mvcell y j) := by
 obtain ⟨ns, rfl, hl, hw⟩ := trod_ints Tryz.underlying66 (by kernel_rfl) (by kernel_rfl) (by kernel_rfl) h
 match ns, hl with
 | [a, b, c, d, e, f], _ =>
  refine ⟨⟨a, b, c, d, e, f⟩, ⟨w64_of (hw a (by simp)), w64_of (hw b (by simp)), w64_of (hw c (by simp)), w64_of (hw d (by simp)), w64_of (hw e (by simp)), w64_of (hw f (by simp))⟩, fun j hj => ?_⟩
  match j, hj with
  | 0, _ | 1, _ | 2, _ | 3, _ | 4, _ | 5, _ => rfl
theorem lists_el (n : Nat) (cs : List Value) (x : DataW H × List MemPlace) (h : DataW.trod enc Tryz.prog w base spare held n 29 cs = some x) : ∃ y : SLc, (Sl 1 icell w w.heap.size y.A y.xs ∧ ∀ x ∈ y.xs, M.W64 x) ∧ ∀ j, j < 1 → cs[j]? = some (slcell y j) := by
 obtain ⟨A, c, xs, rfl, hS, h1, h2, hR⟩ := trod_list (cell := icell) (R := fun y => (Lit.int .i64 y).wf = true) Tryz.underlying29 (by kernel_rfl) (by decide) (int_el Tryz.underlying3) h
 refine ⟨⟨A, c, xs⟩, ⟨hS, fun x hx => w64_of (hR x hx)⟩, fun j hj => ?_⟩
 match j, hj with
 | 0, _ => rfl
theorem ints_of {ps : List P5} {l : List Mv} (h1 : ∀ p ∈ ps, M.P5w p) (h2 : ∀ m ∈ l, M.Mvw m) : M.Ints ps l := ⟨fun p hp => ⟨(h1 p hp).1, (h1 p hp).2.1, (h1 p hp).2.2.1⟩, fun m hm => ⟨(h2 m hm).1, (h2 m hm).2.1, (h2 m hm).2.2.1⟩⟩
end
end Go.Proofs.YtpkepgcmifdpfaaGreatDoor
end
