/- A bundle of texts: LdOpen. -/
import Derived.Test.YtceobfigfmnacaaDoorE29
import Derived.Test.YtceobfigfmnacaaDoorE07
import Derived.Test.YtceobfigfmnacaaDoorE24
section
namespace Go.Proofs.YtceobfigfmnacaaDoor
open Go.ChangeShapes Go.WideShapes Go.RowKit Go.Deep
set_option maxRecDepth 100000
theorem w64_of {x : Int} (h : (Lit.int .i64 x).wf = true) : M.W64 x := by
 unfold M.W64
 simp [Lit.wf, IntKind.min, IntKind.max, IntKind.signed, IntKind.bits] at h
 omega
section
variable {H : Type} {enc : TypeId × Value → H} {w : World} {base : Nat} {spare : Nat → Bool} {held : Bool}
def M.P5w (p : P5) : Prop := M.W64 p.a ∧ M.W64 p.b ∧ M.W64 p.c ∧ M.W64 p.d ∧ M.W64 p.e
def M.Mvw (m : Mv) : Prop := M.W64 m.st ∧ M.W64 m.old ∧ M.W64 m.new ∧ M.W64 m.tw ∧ M.W64 m.cr ∧ M.W64 m.wk
theorem p5w_el (n : Nat) (cs : List Value) (x : DataW H × List MemPlace) (h : DataW.trod enc Tryd.prog w base spare held n 65 cs = some x) : ∃ y : P5, M.P5w y ∧ ∀ j, j < 5 → cs[j]? = some (p5cell y j) := by
 obtain ⟨ns, rfl, hl, hw⟩ := trod_ints Tryd.underlying65 (by kernel_rfl) (by kernel_rfl) (by kernel_rfl) h
 match ns, hl with
 | [a, b, c, d, e], _ =>
  refine ⟨⟨a, b, c, d, e⟩, ⟨w64_of (hw a (by simp)), w64_of (hw b (by simp)), w64_of (hw c (by simp)), w64_of (hw d (by simp)), w64_of (hw e (by simp))⟩, fun j hj => ?_⟩
  match j, hj with
  | 0, _ | 1, _ | 2, _ | 3, _ | 4, _ => rfl
theorem mvw_el (n : Nat) (cs : List Value) (x : DataW H × List MemPlace) (h : DataW.trod enc Tryd.prog w base spare held n 26 cs = some x) : ∃ y : Mv, M.Mvw y ∧ ∀ j, j < 6 → cs[j]? = some (mvcell y j) := by
 obtain ⟨ns, rfl, hl, hw⟩ := trod_ints Tryd.underlying26 (by kernel_rfl) (by kernel_rfl) (by kernel_rfl) h
 match ns, hl with
 | [a, b, c, d, e, f], _ =>
  refine ⟨⟨a, b, c, d, e, f⟩, ⟨w64_of (hw a (by simp)), w64_of (hw b (by simp)), w64_of (hw c (by simp)), w64_of (hw d (by simp)), w64_of (hw e (by simp)), w64_of (hw f (by simp))⟩, fun j hj => ?_⟩
  match j, hj with
  | 0, _ | 1, _ | 2, _ | 3, _ | 4, _ | 5, _ => rfl
theorem open_pairs {r : Reach} {b0 : Nat} {v : Value} {d : DataW H} {p : List MemPlace} (hv : Value.okWide Tryd.prog w r b0 22 v) (h : DataW.Trod enc Tryd.prog w base spare held 22 v d p) :
  ∃ (A : Option Addr) (c : Nat) (xs : List P5), v = .slice A xs.length c ∧ Sl 5 p5cell w w.heap.size A xs ∧ xs.length ≤ 9223372036854775807 ∧ ∀ x ∈ xs, M.P5w x := by
 obtain ⟨A, c, xs, e, hS, h1, h2, hR⟩ := open_list (cell := p5cell) (R := M.P5w) Tryd.underlying22 (by kernel_rfl) (by decide) p5w_el hv h
 exact ⟨A, c, xs, e, hS, by unfold maxLen at h2; omega, hR⟩
theorem open_moves {r : Reach} {b0 : Nat} {v : Value} {d : DataW H} {p : List MemPlace} (hv : Value.okWide Tryd.prog w r b0 31 v) (h : DataW.Trod enc Tryd.prog w base spare held 31 v d p) :
  ∃ (A : Option Addr) (c : Nat) (xs : List Mv), v = .slice A xs.length c ∧ Sl 6 mvcell w w.heap.size A xs ∧ xs.length ≤ 9223372036854775807 ∧ ∀ x ∈ xs, M.Mvw x := by
 obtain ⟨A, c, xs, e, hS, h1, h2, hR⟩ := open_list (cell := mvcell) (R := M.Mvw) Tryd.underlying31 (by kernel_rfl) (by decide) mvw_el hv h
 exact ⟨A, c, xs, e, hS, by unfold maxLen at h2; omega, hR⟩
theorem ints_of {ps : List P5} {l : List Mv} (h1 : ∀ p ∈ ps, M.P5w p) (h2 : ∀ m ∈ l, M.Mvw m) : M.Ints ps l := ⟨fun p hp => ⟨(h1 p hp).1, (h1 p hp).2.1, (h1 p hp).2.2.1⟩, fun m hm => ⟨(h2 m hm).1, (h2 m hm).2.1, (h2 m hm).2.2.1⟩⟩
end
end Go.Proofs.YtceobfigfmnacaaDoor
end
