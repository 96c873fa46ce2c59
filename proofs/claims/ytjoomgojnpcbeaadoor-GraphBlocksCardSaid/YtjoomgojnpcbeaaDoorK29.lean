/- A bundle of texts: Lb1. -/
import Derived.Test.YtjoomgojnpcbeaaDoorK27
import Derived.Test.YtjoomgojnpcbeaaDoorK26
import Derived.Test.YtjoomgojnpcbeaaDoorK28
section
namespace Go.Proofs.YtjoomgojnpcbeaaDoor
open Go Go.RowKit Gh
set_option maxRecDepth 100000
structure LG (w W : World) (g bg n : Nat) (R : List Nat) (E : List Ge.Ed) (EA : Option Addr) (ec : Nat) : Prop where
  bel : Below w.heap.size w W
  ge : GE W w.heap.size g bg n R E EA ec
  tab0 : Tab64 w
  el : E.length ≤ 1000
section
variable {w W W' : World} {g bg n : Nat} {R : List Nat} {E : List Ge.Ed} {EA : Option Addr} {ec : Nat}
theorem LG.tab (h : LG w W g bg n R E EA ec) : Tab64 W := h.tab0.kept h.bel
theorem LG.next (h : LG w W g bg n R E EA ec) (hb : Below W.heap.size W W') : LG w W' g bg n R E EA ec := ⟨after_ h.bel hb, h.ge.next hb, h.tab0, h.el⟩
theorem LG.er (h : LG w W g bg n R E EA ec) : Ge.ER n E R := h.ge.er
theorem LG.len (h : LG w W g bg n R E EA ec) : R.length = n := h.ge.er.len
theorem LG.known (h : LG w W g bg n R E EA ec) : Calls Tryd.prog 11 #[] W fun e w' => e = .returned (.bool true) ∧ Below W.heap.size W w' := known08_any W h.tab
theorem LG.of {m : Nat} {l : List (Int × Int)} (ht : Tab64 w) (hl : l.length ≤ 1000) (hb : Below w.heap.size w W) (ge : GE W w.heap.size g bg m R (Ge.bld m l) EA ec) : LG w W g bg m R (Ge.bld m l) EA ec :=
  ⟨hb, ge, ht, by have := Ge.bld_len m l l.length (Nat.le_refl _); rw [List.take_length] at this; omega⟩
theorem LG.comps (h : LG w W g bg n R E EA ec) : Calls Tryd.prog 14 #[gp bg] W fun e w' => (∃ A c ls, e = .returned (.slice A ls.length c) ∧ LL w' A ls ∧ ls.map (·.xs) = (Ge.comps E (List.range n)).map bsl) ∧ Below W.heap.size W w' := by
  refine (ghComponents_ok _ R W h.ge.go.gg.v h.er.ok h.er.sy h.tab).mono ?_
  rintro e w' ⟨v, ls, rfl, hlo, hls, hb⟩
  obtain ⟨A, c, rfl, hll⟩ := hlo.sl_
  exact ⟨⟨A, c, ls, rfl, hll, by rw [hls, h.er.comps]⟩, hb⟩
theorem lAl {A B : Option Addr} {ac bc : Nat} {us vs : List SLc} {cs : List (List Nat)} (W : World) (hA : LL W A us) (hB : LL W B vs) (h1 : us.map (·.xs) = cs.map bsl) (h2 : vs.map (·.xs) = cs.map bsl) (hl : cs.length ≤ 512 ∧ ∀ s ∈ cs, s.length ≤ 512) : Calls Tryd.prog 13 #[.slice A us.length ac, .slice B vs.length bc] W fun e w' => e = .returned (.bool true) ∧ Below W.heap.size W w' := by
  have hlu : us.length = cs.length := by have := congrArg List.length h1; simpa using this
  have h := lAlike_any A B ac bc us vs W hA hB (by omega) (fun s hs => by
    have h3 : s.xs ∈ us.map (·.xs) := List.mem_map.2 ⟨s, hs, rfl⟩
    rw [h1] at h3
    obtain ⟨t, ht, e⟩ := List.mem_map.1 h3
    rw [← e, bsl_len]
    have := hl.2 t ht
    omega)
  rw [decide_eq_true (h1.trans h2.symm)] at h
  exact h
theorem lEq {A B : Option Addr} {ac bc n m : Nat} {L : List Nat} (W : World) (hn : n = L.length) (hm : m = L.length) (hA : Sl 1 icell W W.heap.size A (bsl L)) (hB : Sl 1 icell W W.heap.size B (bsl L)) (hl : L.length ≤ 1000000) : Calls Tryd.prog 19 #[.slice A n ac, .slice B m bc] W fun e w' => e = .returned (.bool true) ∧ Below W.heap.size W w' := by
  subst hn hm
  have h := lEqual_any A B ac bc (bsl L) (bsl L) W hA hB (by rw [bsl_len]; exact hl)
  rw [decide_eq_true rfl, bsl_len] at h
  exact h
theorem LG.clique (h : LG w W g bg n R E EA ec) : Calls Tryd.prog 22 #[gp bg] W fun e w' => (∃ A c, e = .returned (.slice A (Ge.cliq E n).length c) ∧ Sl 1 icell w' w'.heap.size A (bsl (Ge.cliq E n))) ∧ Below W.heap.size W w' := by
  refine (ghClique_ok _ R W h.ge.go.gg.v h.er.ok.len h.er.fit h.er.sy h.tab).mono ?_
  rintro e w' ⟨A, c, rfl, hS, hb⟩
  rw [bsl_len, h.er.cliq]
  exact ⟨⟨A, c, rfl, hS⟩, hb⟩
end
end Go.Proofs.YtjoomgojnpcbeaaDoor
end
