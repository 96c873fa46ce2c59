/- A bundle of texts: Rd3, Rd4, Rd5, Rd6, Rd7, Ld. -/
import Derived.Test.YtceobfigfmnacaaDoorE24
import Derived.Test.YtceobfigfmnacaaDoorE22
import Derived.Test.YtceobfigfmnacaaDoorE07
import Derived.Test.YtceobfigfmnacaaDoorE18
section
namespace Go.Proofs.YtceobfigfmnacaaDoor
open Go Go.RowKit
set_option maxRecDepth 100000
namespace M
theorem scc_inG {R : List Nat} (h : Dg.Ok R) {v j : Nat} (hv : v < R.length) (hj : j < R.length) : (Dg.scc R v).testBit j = inG (dep R) v j := by
  rw [inG_eq h hv hj, Bool.eq_iff_iff, Dg.scc_bit h hv, Dg.grp_iff h]
def lstK (lst : Nat → Bool) (d : Tb) (v k : Nat) : Nat → Bool := fun j => lst j || (decide (j < k) && inG d v j)
theorem RG.go {R done left : List Nat} {S n : Nat} {lst : Nat → Bool} (h : Dg.Ok R) (hn : R.length = n) (r : RG R done left S) (hl : ∀ j, j < n → lst j = S.testBit j) (hc : cntB n lst < n) :
    ∃ v, v < n ∧ lst v = false ∧ rdyT (dep R) lst n v = true ∧ (∀ j, j < v → lst j = true ∨ rdyT (dep R) lst n j = false) ∧ (∀ k, k < n → inG (dep R) v k = true → lst k = false) ∧
      ∃ left' S', RG R (done ++ [v]) left' S' ∧ ∀ j, j < n → lstK lst (dep R) v n j = S'.testBit j := by
  subst hn
  obtain ⟨j, hj, hlj⟩ := cntB_lt hc
  obtain ⟨v, h1, h2, h3, h4⟩ := r.at h hj (by rw [← hl j hj]; exact hlj)
  unfold Dg.rfirst at h1
  rw [Dg.find_first List.pairwise_lt_range] at h1
  obtain ⟨-, h5, h6⟩ := h1
  rw [Bool.and_eq_true, Bool.not_eq_true'] at h5
  refine ⟨v, h2, by rw [hl v h2]; exact h5.1, by rw [rdyT_eq h h2 hl]; exact h5.2, fun u hu => ?_, fun k hk hg => ?_, _, _, h4, fun k hk => ?_⟩
  · have hul : u < R.length := by omega
    rw [hl u hul, rdyT_eq h hul hl]
    cases hs : S.testBit u with
    | true => exact .inl rfl
    | false =>
      right
      cases hr : Dg.rdy R S u with
      | false => rfl
      | true =>
        have := h6 u (by simpa using hul) (by rw [hs, hr]; rfl)
        omega
  · rw [hl k hk]
    exact h3 k (by rw [scc_inG h h2 hk]; exact hg)
  · unfold lstK
    rw [Nat.testBit_or, scc_inG h h2 hk, hl k hk, decide_eq_true hk, Bool.true_and]
end M
structure RGS (w W : World) (g gl n base : Nat) (b : Nat → Nat) (d : M.Tb) (lst : Nat → Bool) (vO : Value) (os : List SLc) : Prop where
  bel : Below w.heap.size w W
  tb : TB W w.heap.size g n n b d
  bl : BR W w.heap.size gl n lst
  lo : LO W base vO os
section
variable {w W W' : World} {g gl n base : Nat} {b : Nat → Nat} {d : M.Tb} {lst : Nat → Bool} {vO : Value} {os : List SLc}
theorem RGS.next (h : RGS w W g gl n base b d lst vO os) (hb : Below W.heap.size W W') : RGS w W' g gl n base b d lst vO os := ⟨after_ h.bel hb, h.tb.next hb, own_below h.bl hb, h.lo.below hb⟩
theorem own_nn (v : Value) : v.ownBlock = none ∨ v.ownBlock ≠ none := by cases v.ownBlock <;> simp
theorem RGS.grow {row : Option Nat} {C : Nat} (h : RGS w W g gl n base b d lst vO os) (hg : W.grownBy W' row) (hr : ∀ r, row = some r → C ≤ r) (hC : w.heap.size ≤ C) (hl : g < C ∧ gl < C ∧ (∀ i, i < n → b i < C) ∧ (∀ r, vO.ownBlock = some r → r < C) ∧ ∀ s ∈ os, ∀ r, (Value.slice s.A s.xs.length s.c).ownBlock = some r → r < C) : RGS w W' g gl n base b d lst vO os := by
  obtain ⟨h1, h2, h3, h4, h5⟩ := hl
  refine ⟨h.bel.grown hg h.bel.size (fun k e => Nat.le_trans hC (hr k e)), h.tb.kept hg (fun e => by have := hr _ e; omega) (fun i hi e => by have := hr _ e; have := h3 i hi; omega), h.bl.kept hg (.inr (fun e => by have h9 : C ≤ gl := hr gl e.symm; omega)), ?_⟩
  cases row with
  | none => exact ⟨h.lo.outer.kept hg (own_nn _), fun s hs => (h.lo.inner s hs).kept hg (own_nn _)⟩
  | some r =>
    have hrr := hr r rfl
    exact h.lo.off hg (fun e => by have := h4 r e; omega) (fun s hs e => by have := h5 s hs r e; omega)
theorem RGS.push (h : RGS w W g gl n base b d lst vO os) {v' : Value} {s : SLc} (hi : W.ownsRow base 3 1 (.slice s.A s.xs.length s.c) s.xs.length (flat 1 icell s.xs)) (hb : Below w.heap.size w W') (ho : W'.ownsRow base 39 1 v' (os.length + 1) (flat 1 slcell (os ++ [s]))) (hg : W.grownBy W' vO.ownBlock) : RGS w W' g gl n base b d lst v' (os ++ [s]) := by
  have hne : ∀ {x : Nat} {e : TypeId} {bb : Nat} {xs : List Value}, W.ownsRow bb e 1 (.slice (some ⟨x, 0, none⟩) n n) n xs → e ≠ 39 → vO.ownBlock ≠ some x := fun {x e bb xs} h1 h2 => by
    rcases own_ne h1 h.lo.outer h2 with h3 | h3
    · cases h3
    · exact fun e2 => h3 e2.symm
  exact ⟨hb, h.tb.kept hg (hne h.tb.outer (by decide)) (fun i hi => hne (h.tb.row i hi) (by decide)), h.bl.kept hg (own_ne h.bl h.lo.outer (by decide)), h.lo.push hi ho hg⟩
theorem RGS.list (h : RGS w W g gl n base b d lst vO os) (hs : w.heap.size ≤ gl ∧ g < gl ∧ gl < base ∧ ∀ i, i < n → b i < gl) {k : Nat} (hk : k < n) : RGS w (W.setCell ⟨gl, k, none⟩ (.bool true)) g gl n base b d (M.setB lst k) vO os :=
  ⟨h.bel.setCell (p := ⟨gl, k, none⟩) hs.1 _, h.tb.kept (grown_set W gl k (.bool true)) (fun e => by have e2 : gl = g := Option.some.inj e; omega) (fun i hi e => by have e2 : gl = b i := Option.some.inj e; have := hs.2.2.2 i hi; omega), h.bl.set hk true, h.lo.far (grown_set W gl k (.bool true)) hs.2.2.1⟩
end
end Go.Proofs.YtceobfigfmnacaaDoor
end

section
namespace Go.Proofs.YtceobfigfmnacaaDoor
open Go Go.RowKit
set_option maxRecDepth 100000
namespace Bs
theorem els_range {s n : Nat} (hn : n ≤ 512) (h : ∀ j, s.testBit j = true → j < n) : els s 0 = (List.range n).filter (fun j => s.testBit j) := by
  rw [els_filter]
  have e : ∀ m, n ≤ m → (List.range m).filter (fun j => s.testBit j) = (List.range n).filter (fun j => s.testBit j) := by
    intro m hm
    induction m with
    | zero => rw [show n = 0 by omega]
    | succ m ih =>
      by_cases hlt : n ≤ m
      · rw [List.range_succ, List.filter_append, ih hlt]
        have : s.testBit m = false := by
          cases hb : s.testBit m with
          | false => rfl
          | true => have := h m hb; omega
        rw [List.filter_cons_of_neg (by rw [this]; decide)]
        simp
      · rw [show n = m + 1 by omega]
  exact e 512 hn
end Bs
namespace M
end M
end Go.Proofs.YtceobfigfmnacaaDoor
end

section
namespace Go.Proofs.YtceobfigfmnacaaDoor
open Go Go.RowKit
set_option maxRecDepth 100000
end Go.Proofs.YtceobfigfmnacaaDoor
end

section
namespace Go.Proofs.YtceobfigfmnacaaDoor
open Go Go.RowKit
set_option maxRecDepth 100000
namespace M
def setL (L : Nat → Nat) (i a : Nat) : Nat → Nat := fun j => if j = i then a else L j
end M
abbrev NR (w : World) (base g n : Nat) (L : Nat → Nat) : Prop := w.ownsRow base 3 1 (.slice (some ⟨g, 0, none⟩) n n) n (flat 1 icell (Dg.fl n fun j => (L j : Int)))
theorem NR.at {w : World} {base g n : Nat} {L : Nat → Nat} (h : NR w base g n L) {k : Nat} (hk : k < n) : w.cell? ⟨g, k, none⟩ = some (.int .i64 (L k)) ∧ w.frozen? ⟨g, k, none⟩ = false := by
 have := own_at h (k := k) (j := 0) (by rw [Dg.fl_len]; exact hk) (by decide)
 rw [Nat.mul_one, Nat.add_zero] at this
 refine ⟨this.1.trans ?_, this.2⟩
 rw [Dg.fl_at]
 rfl
theorem NR.set {w : World} {base g n : Nat} {L : Nat → Nat} (h : NR w base g n L) {k : Nat} (hk : k < n) (y : Nat) : NR (w.setCell ⟨g, k, none⟩ (.int .i64 y)) base g n (M.setL L k y) := by
 have h3 := own_set (size := 1) (cell := icell) h (k := k) (by rw [Dg.fl_len]; exact hk) (j := 0) (y := (y : Int)) (u := .int .i64 y) (by decide) rfl (fun j' h1 h2 => absurd h1 (by omega))
 rw [Nat.mul_one, Nat.add_zero, Dg.fl_set] at h3
 have e : (fun j => if j = k then (y : Int) else (L j : Int)) = fun j => ((M.setL L k y j : Nat) : Int) := by funext j; unfold M.setL; split <;> rfl
 rw [e] at h3
 exact h3
theorem NR.congr {w : World} {base g n : Nat} {L L' : Nat → Nat} (h : NR w base g n L) (e : L = L') : NR w base g n L' := e ▸ h
end Go.Proofs.YtceobfigfmnacaaDoor
end

section
namespace Go.Proofs.YtceobfigfmnacaaDoor
open Go Go.RowKit
set_option maxRecDepth 100000
namespace M
end M
end Go.Proofs.YtceobfigfmnacaaDoor
end

section
namespace Go.Proofs.YtceobfigfmnacaaDoor
open Go Go.RowKit
set_option maxRecDepth 100000
structure LW (w W : World) (PA LA : Option Addr) (ps : List P5) (l : List Mv) : Prop where
  bel : Below w.heap.size w W
  tab0 : Tab64 w
  p0 : Sl 5 p5cell w w.heap.size PA ps
  l0 : Sl 6 mvcell w w.heap.size LA l
  ints : M.Ints ps l
section
variable {w W W' : World} {PA LA : Option Addr} {ps : List P5} {l : List Mv}
theorem LW.next (h : LW w W PA LA ps l) (hb : Below W.heap.size W W') : LW w W' PA LA ps l := ⟨after_ h.bel hb, h.tab0, h.p0, h.l0, h.ints⟩
theorem LW.tab (h : LW w W PA LA ps l) : Tab64 W := h.tab0.kept h.bel
theorem LW.pairs (h : LW w W PA LA ps l) : Sl 5 p5cell W W.heap.size PA ps := (h.p0.below h.bel).more h.bel.size
theorem LW.moves (h : LW w W PA LA ps l) : Sl 6 mvcell W W.heap.size LA l := (h.l0.below h.bel).more h.bel.size
theorem LW.iw (h : LW w W PA LA ps l) : ∀ p ∈ ps, M.W64 p.a ∧ M.W64 p.b := fun p hp => ⟨(h.ints.p p hp).1, (h.ints.p p hp).2.1⟩
theorem LW.known (h : LW w W PA LA ps l) : Calls Tryd.prog 9 #[] W fun e w' => e = .returned (.bool true) ∧ Below W.heap.size W w' := known47_any W h.tab
end
theorem M.err_few {ps : List P5} {l : List Mv} {a : Int} (h : M.errIs ps l a) (hp : ps.length ≤ 40) : (M.mvsOk l ∧ a = 0) ∨ (¬ M.mvsOk l ∧ a = 2) := by
  rcases h with ⟨h1, -, h⟩ | ⟨-, h2, -⟩ | ⟨h1, h⟩
  · exact .inl ⟨h1, h⟩
  · omega
  · exact .inr ⟨h1, h⟩
end Go.Proofs.YtceobfigfmnacaaDoor
end
