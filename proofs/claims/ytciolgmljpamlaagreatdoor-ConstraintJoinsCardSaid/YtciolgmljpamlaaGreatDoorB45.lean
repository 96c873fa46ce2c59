/- A bundle of texts: RuOpen. -/
import Derived.Test.YtciolgmljpamlaaGreatDoorB44
import Derived.Test.YtciolgmljpamlaaGreatDoorB08
section
namespace Go.Proofs.YtciolgmljpamlaaGreatDoor
open Go.ChangeShapes Go.WideShapes Go.RowKit Go.Deep
set_option maxRecDepth 100000
section
variable {H : Type} {enc : TypeId × Value → H} {w : World} {base : Nat} {spare : Nat → Bool} {held : Bool}
theorem p5_el {t : TypeId} {fs : Array Field} (hs : Tryz.prog.underlying t = some (.struct fs)) (hone : oneCellFields Tryz.prog fs = true) (hC : Tryz.prog.cellsOf t = fs.size) (hint : allInts Tryz.prog fs = true) (hz : fs.size = 5) (n : Nat) (cs : List Value) (x : DataW H × List MemPlace)
  (h : DataW.trod enc Tryz.prog w base spare held n t cs = some x) : ∃ y : P5, True ∧ ∀ j, j < 5 → cs[j]? = some (p5cell y j) := by
 obtain ⟨ns, rfl, hl, _⟩ := trod_ints hs hone hC hint h
 rw [hz] at hl
 match ns, hl with
 | [a, b, c, d, e], _ =>
  refine ⟨⟨a, b, c, d, e⟩, trivial, fun j hj => ?_⟩
  match j, hj with
  | 0, _ | 1, _ | 2, _ | 3, _ | 4, _ => rfl
theorem p4_el {t : TypeId} {fs : Array Field} (hs : Tryz.prog.underlying t = some (.struct fs)) (hone : oneCellFields Tryz.prog fs = true) (hC : Tryz.prog.cellsOf t = fs.size) (hint : allInts Tryz.prog fs = true) (hz : fs.size = 4) (n : Nat) (cs : List Value) (x : DataW H × List MemPlace)
  (h : DataW.trod enc Tryz.prog w base spare held n t cs = some x) : ∃ y : P4, True ∧ ∀ j, j < 4 → cs[j]? = some (p4cell y j) := by
 obtain ⟨ns, rfl, hl, _⟩ := trod_ints hs hone hC hint h
 rw [hz] at hl
 match ns, hl with
 | [a, b, c, d], _ =>
  refine ⟨⟨a, b, c, d⟩, trivial, fun j hj => ?_⟩
  match j, hj with
  | 0, _ | 1, _ | 2, _ | 3, _ => rfl
theorem open_rules2 {b0 : Nat} {r : Reach} {v : Value} {d : DataW H} {p : List MemPlace} (hv : Value.okWide Tryz.prog w r b0 30 v) (h : DataW.Trod enc Tryz.prog w base spare held 30 v d p) :
  ∃ (XA YA ZA : Option Addr) (xc yc zc : Nat) (ps ls : List P5) (cs : List P4), v = ruv XA ps.length xc YA ls.length yc ZA cs.length zc ∧ RW w XA YA ZA ps ls cs ∧ ps.length ≤ 9223372036854775807 ∧ ls.length ≤ 9223372036854775807 ∧ cs.length ≤ 9223372036854775807 ∧ (ps.length ≤ xc ∧ ls.length ≤ yc ∧ cs.length ≤ zc) := by
 obtain ⟨vs, rfl, hsz⟩ := okWide_struct Tryz.underlying30 hv
 obtain ⟨fuel, hf⟩ := h
 rw [show (Value.agg vs).cells = vs from rfl] at hf
 have hl := trod_len Tryz.underlying30 hf
 obtain ⟨_, _, f0⟩ := trod_field Tryz.underlying30 hf 0 26 0 1 rfl (by kernel_rfl)
 obtain ⟨_, _, f1⟩ := trod_field Tryz.underlying30 hf 1 27 1 1 rfl (by kernel_rfl)
 obtain ⟨_, _, f2⟩ := trod_field Tryz.underlying30 hf 2 28 2 1 rfl (by kernel_rfl)
 rw [show Tryz.prog.cellsOf 30 = 3 by kernel_rfl] at hl
 obtain ⟨x0, x1, x2, e⟩ : ∃ x0 x1 x2, vs.toList = [x0, x1, x2] := by
  match hh : vs.toList, hl with
  | [x0, x1, x2], _ => exact ⟨x0, x1, x2, rfl⟩
 rw [e] at f0 f1 f2
 simp only [List.drop_zero, List.drop_succ_cons, List.take_succ_cons, List.take_zero] at f0 f1 f2
 obtain ⟨XA, xc, ps, e0, hx, h1, h2, _⟩ := trod_list (cell := p5cell) Tryz.underlying26 (by kernel_rfl) (by decide) (p5_el Tryz.underlying66 (by kernel_rfl) (by kernel_rfl) (by kernel_rfl) rfl) f0
 obtain ⟨YA, yc, ls, e1, hy, h3, h4, _⟩ := trod_list (cell := p5cell) Tryz.underlying27 (by kernel_rfl) (by decide) (p5_el Tryz.underlying68 (by kernel_rfl) (by kernel_rfl) (by kernel_rfl) rfl) f1
 obtain ⟨ZA, zc, cs, e2, hz, h5, h6, _⟩ := trod_list (cell := p4cell) Tryz.underlying28 (by kernel_rfl) (by decide) (p4_el Tryz.underlying71 (by kernel_rfl) (by kernel_rfl) (by kernel_rfl) rfl) f2
 unfold maxLen at h2 h4 h6
 refine ⟨XA, YA, ZA, xc, yc, zc, ps, ls, cs, ?_, ⟨hx, hy, hz⟩, by omega, by omega, by omega, h1, h3, h5⟩
 have : vs = #[x0, x1, x2] := by apply Array.ext'; simpa using e
 rw [this]
 simp only [List.cons.injEq, and_true] at e0 e1 e2
 rw [e0, e1, e2]
end
end Go.Proofs.YtciolgmljpamlaaGreatDoor
end
