/- A bundle of texts: Rd2, Rd3, Rd4, Rd5, GrD, Rd6, Rd7, Ld, Ld2. -/
import Derived.Test.YtpkepgcmifdpfaaGreatDoorU25
import Derived.Test.YtpkepgcmifdpfaaGreatDoorU07
import Derived.Test.YtpkepgcmifdpfaaGreatDoorU19
section
namespace Go.Proofs.YtpkepgcmifdpfaaGreatDoor
open Go Go.RowKit
set_option maxRecDepth 100000
namespace M
end M
end Go.Proofs.YtpkepgcmifdpfaaGreatDoor
end

section
namespace Go.Proofs.YtpkepgcmifdpfaaGreatDoor
open Go Go.RowKit
set_option maxRecDepth 100000
namespace M
theorem scc_inG {R : List Nat} (h : Dg.Ok R) {v j : Nat} (hv : v < R.length) (hj : j < R.length) : (Dg.scc R v).testBit j = inG (dep R) v j := by
  rw [inG_eq h hv hj, Bool.eq_iff_iff, Dg.scc_bit h hv, Dg.grp_iff h]
def lstK (lst : Nat → Bool) (d : Tb) (v k : Nat) : Nat → Bool := fun j => lst j || (decide (j < k) && inG d v j)
theorem RG.go {R done left : List Nat} {S n : Nat} {lst : Nat → Bool} (h : Dg.Ok R) (hn : R.length = n) (r : RG R done left S) (hl : ∀ j, j < n → lst j = S.testBit j) (hc : cntB n lst < n) :
    ∃ v, v < n ∧ lst v = false ∧ rdyT (dep R) lst n v = true ∧ (∀ j, j < v → lst j = true ∨ rdyT (dep R) lst n j = false) ∧ (∀ k, k < n → inG (dep R) v k = true → lst k = false) ∧
      ∃ left' S', RG R (done ++ [v]) left' S' ∧ ∀ j, j < n → lstK lst (dep R) v n j = S'.testBit j := by
  subst hn
  obtain ⟨j, hj, hlj⟩ := cntB_lt hc
  obtain ⟨v, h1, h2, h3, h4⟩ := r.at h hj (by rw [← hl j hj]; exact hlj)
  unfold Dg.rfirst at h1
  rw [Dg.find_first List.pairwise_lt_range] at h1
  obtain ⟨-, h5, h6⟩ := h1
  rw [Bool.and_eq_true, Bool.not_eq_true'] at h5
  refine ⟨v, h2, by rw [hl v h2]; exact h5.1, by rw [rdyT_eq h h2 hl]; exact h5.2, fun u hu => ?_, fun k hk hg => ?_, _, _, h4, fun k hk => ?_⟩
  · have hul : u < R.length := by omega
    rw [hl u hul, rdyT_eq h hul hl]
    cases hs : S.testBit u with
    | true => exact .inl rfl
    | false =>
      right
      cases hr : Dg.rdy R S u with
      | false => rfl
      | true =>
        have := h6 u (by simpa using hul) (by rw [hs, hr]; rfl)
        omega
  · rw [hl k hk]
    exact h3 k (by rw [scc_inG h h2 hk]; exact hg)
  · unfold lstK
    rw [Nat.testBit_or, scc_inG h h2 hk, hl k hk, decide_eq_true hk, Bool.true_and]
end M
structure RGS (w W : World) (g gl n base : Nat) (b : Nat → Nat) (d : M.Tb) (lst : Nat → Bool) (vO : Value) (os : List SLc) : Prop where
  bel : Below w.heap.size w W
  tb : TB W w.heap.size g n n b d
  bl : BR W w.heap.size gl n lst
  lo : LO W base vO os
section
variable {w W W' : World} {g gl n base : Nat} {b : Nat → Nat} {d : M.Tb} {lst : Nat → Bool} {vO : Value} {os : List SLc}
theorem RGS.next (h : RGS w W g gl n base b d lst vO os) (hb : Below W.heap.size W W') : RGS w W' g gl n base b d lst vO os := ⟨after_ h.bel hb, h.tb.next hb, own_below h.bl hb, h.lo.below hb⟩
theorem own_nn (v : Value) : v.ownBlock = none ∨ v.ownBlock ≠ none := by cases v.ownBlock <;> simp
theorem RGS.grow {row : Option Nat} {C : Nat} (h : RGS w W g gl n base b d lst vO os) (hg : W.grownBy W' row) (hr : ∀ r, row = some r → C ≤ r) (hC : w.heap.size ≤ C) (hl : g < C ∧ gl < C ∧ (∀ i, i < n → b i < C) ∧ (∀ r, vO.ownBlock = some r → r < C) ∧ ∀ s ∈ os, ∀ r, (Value.slice s.A s.xs.length s.c).ownBlock = some r → r < C) : RGS w W' g gl n base b d lst vO os := by
  obtain ⟨h1, h2, h3, h4, h5⟩ := hl
  refine ⟨h.bel.grown hg h.bel.size (fun k e => Nat.le_trans hC (hr k e)), h.tb.kept hg (fun e => by have := hr _ e; omega) (fun i hi e => by have := hr _ e; have := h3 i hi; omega), h.bl.kept hg (.inr (fun e => by have h9 : C ≤ gl := hr gl e.symm; omega)), ?_⟩
  cases row with
  | none => exact ⟨h.lo.outer.kept hg (own_nn _), fun s hs => (h.lo.inner s hs).kept hg (own_nn _)⟩
  | some r =>
    have hrr := hr r rfl
    exact h.lo.off hg (fun e => by have := h4 r e; omega) (fun s hs e => by have := h5 s hs r e; omega)
theorem RGS.push (h : RGS w W g gl n base b d lst vO os) {v' : Value} {s : SLc} (hi : W.ownsRow base 3 1 (.slice s.A s.xs.length s.c) s.xs.length (flat 1 icell s.xs)) (hb : Below w.heap.size w W') (ho : W'.ownsRow base 29 1 v' (os.length + 1) (flat 1 slcell (os ++ [s]))) (hg : W.grownBy W' vO.ownBlock) : RGS w W' g gl n base b d lst v' (os ++ [s]) := by
  have hne : ∀ {x : Nat} {e : TypeId} {bb : Nat} {xs : List Value}, W.ownsRow bb e 1 (.slice (some ⟨x, 0, none⟩) n n) n xs → e ≠ 29 → vO.ownBlock ≠ some x := fun {x e bb xs} h1 h2 => by
    rcases own_ne h1 h.lo.outer h2 with h3 | h3
    · cases h3
    · exact fun e2 => h3 e2.symm
  exact ⟨hb, h.tb.kept hg (hne h.tb.outer (by decide)) (fun i hi => hne (h.tb.row i hi) (by decide)), h.bl.kept hg (own_ne h.bl h.lo.outer (by decide)), h.lo.push hi ho hg⟩
theorem RGS.list (h : RGS w W g gl n base b d lst vO os) (hs : w.heap.size ≤ gl ∧ g < gl ∧ gl < base ∧ ∀ i, i < n → b i < gl) {k : Nat} (hk : k < n) : RGS w (W.setCell ⟨gl, k, none⟩ (.bool true)) g gl n base b d (M.setB lst k) vO os :=
  ⟨h.bel.setCell (p := ⟨gl, k, none⟩) hs.1 _, h.tb.kept (grown_set W gl k (.bool true)) (fun e => by have e2 : gl = g := Option.some.inj e; omega) (fun i hi e => by have e2 : gl = b i := Option.some.inj e; have := hs.2.2.2 i hi; omega), h.bl.set hk true, h.lo.far (grown_set W gl k (.bool true)) hs.2.2.1⟩
end
end Go.Proofs.YtpkepgcmifdpfaaGreatDoor
end

section
namespace Go.Proofs.YtpkepgcmifdpfaaGreatDoor
open Go Go.RowKit
set_option maxRecDepth 100000
namespace Bs
end Bs
namespace M
end M
end Go.Proofs.YtpkepgcmifdpfaaGreatDoor
end

section
namespace Go.Proofs.YtpkepgcmifdpfaaGreatDoor
open Go Go.RowKit
set_option maxRecDepth 100000
end Go.Proofs.YtpkepgcmifdpfaaGreatDoor
end

section
namespace Go.Proofs.YtpkepgcmifdpfaaGreatDoor
open Go Go.RowKit
set_option maxRecDepth 100000
namespace Dg
end Dg
theorem Box.same {w : World} {b : Nat} {cs : Array Value} {t : TypeId} (h : Box w b cs t) {i : Nat} {v : Value} (hv : cs[i]? = some v) : w.setCell ⟨b, i, none⟩ v = w := by
  have hh : (w.setCell ⟨b, i, none⟩ v).heap = w.heap := by
    apply Array.ext_getElem?
    intro k
    by_cases e : b = k
    · subst e
      have h1 := h.set i v
      unfold Box at h h1
      rw [h1, h]
      have : cs.setIfInBounds i v = cs := by
        apply Array.ext_getElem?
        intro j
        rw [Array.getElem?_setIfInBounds]
        split
        · rename_i e; subst e
          split
          · exact hv.symm
          · rename_i hj
            rw [Array.getElem?_eq_none (by omega)] at hv
            cases hv
        · rfl
      rw [this]
    · exact heap_setCell_other w ⟨b, i, none⟩ k v (fun h => e h.symm)
  show { w with heap := (w.setCell ⟨b, i, none⟩ v).heap } = w
  rw [hh]
structure DS (w2 W : World) (base n g9 b9 : Nat) (D : Nat → Nat) (v : Value) (ls : List SLc) : Prop where
  bel : Below w2.heap.size w2 W
  lo : LO W base v ls
  x9 : Box W b9 #[.slice (some ⟨g9, 0, none⟩) n n] 29
  o9 : W.ownsRow w2.heap.size 3 1 (.slice (some ⟨g9, 0, none⟩) n n) n (flat 1 icell (Dg.fl n fun j => (D j : Int)))
section
variable {w2 W W' : World} {base n g9 b9 : Nat} {D : Nat → Nat} {v : Value} {ls : List SLc}
theorem DS.next (h : DS w2 W base n g9 b9 D v ls) (hb : Below W.heap.size W W') : DS w2 W' base n g9 b9 D v ls :=
  ⟨after_ h.bel hb, h.lo.below hb, h.x9.below hb, own_below h.o9 hb⟩
theorem DS.own {row : Option Nat} {B : Nat} (h : DS w2 W base n g9 b9 D v ls) (hB : w2.heap.size ≤ B) (hg : W.grownBy W' row) (hr : ∀ r, row = some r → B ≤ r ∧ ∃ o : Obj, W.heap[r]? = some o ∧ o.isCells = false) : DS w2 W' base n g9 b9 D v ls :=
  ⟨below_own h.bel hB h.bel.size hg hr, h.lo.own hg hr, h.x9.own hg hr, row_own h.o9 hg hr⟩
theorem DS.cell {b i : Nat} (h : DS w2 W base n g9 b9 D v ls) (hs : w2.heap.size ≤ g9 ∧ g9 < b9) (hb : b9 < b) (hlv : v.ownBlock ≠ some b) (hli : ∀ s ∈ ls, (Value.slice s.A s.xs.length s.c).ownBlock ≠ some b) (u : Value) : DS w2 (W.setCell ⟨b, i, none⟩ u) base n g9 b9 D v ls :=
  ⟨h.bel.setCell (p := ⟨b, i, none⟩) (by dsimp only; omega) _, h.lo.off (grown_set W b i u) hlv hli, h.x9.set_other (by dsimp only; omega) _, h.o9.kept (grown_set W b i u) (.inr (fun e => by have e2 : g9 = b := Option.some.inj e; omega))⟩
theorem DS.set (h : DS w2 W base n g9 b9 D v ls) (hs : w2.heap.size ≤ g9 ∧ g9 < b9) (hb : b9 < base) {x : Nat} (hx : x < n) (y : Nat) : DS w2 (W.setCell ⟨g9, x, none⟩ (.int .i64 y)) base n g9 b9 (fun j => if j = x then y else D j) v ls := by
  refine ⟨h.bel.setCell (p := ⟨g9, x, none⟩) (by dsimp only; omega) _, h.lo.far (grown_set W g9 x _) (by omega), h.x9.set_other (by dsimp only; omega) _, ?_⟩
  have h3 := own_set (size := 1) (cell := icell) h.o9 (k := x) (by rw [Dg.fl_len]; exact hx) (j := 0) (y := (y : Int)) (u := .int .i64 y) (by decide) rfl (fun j' h1 h2 => absurd h1 (by omega))
  rw [Nat.mul_one, Nat.add_zero, Dg.fl_set] at h3
  have e : (fun j => if j = x then (y : Int) else (D j : Int)) = fun j => ((if j = x then y else D j : Nat) : Int) := by funext j; split <;> rfl
  rw [e] at h3
  exact h3
theorem DS.at (h : DS w2 W base n g9 b9 D v ls) {x : Nat} (hx : x < n) : W.cell? ⟨g9, x, none⟩ = some (.int .i64 (D x)) ∧ W.frozen? ⟨g9, x, none⟩ = false := by
  have := own_at h.o9 (k := x) (j := 0) (by rw [Dg.fl_len]; exact hx) (by decide)
  rw [Nat.mul_one, Nat.add_zero] at this
  refine ⟨this.1.trans ?_, this.2⟩
  rw [Dg.fl_at]
  rfl
end
end Go.Proofs.YtpkepgcmifdpfaaGreatDoor
end

section
namespace Go.Proofs.YtpkepgcmifdpfaaGreatDoor
open Go Go.RowKit
set_option maxRecDepth 100000
namespace M
def setL (L : Nat → Nat) (i a : Nat) : Nat → Nat := fun j => if j = i then a else L j
end M
abbrev NR (w : World) (base g n : Nat) (L : Nat → Nat) : Prop := w.ownsRow base 3 1 (.slice (some ⟨g, 0, none⟩) n n) n (flat 1 icell (Dg.fl n fun j => (L j : Int)))
theorem NR.at {w : World} {base g n : Nat} {L : Nat → Nat} (h : NR w base g n L) {k : Nat} (hk : k < n) : w.cell? ⟨g, k, none⟩ = some (.int .i64 (L k)) ∧ w.frozen? ⟨g, k, none⟩ = false := by
 have := own_at h (k := k) (j := 0) (by rw [Dg.fl_len]; exact hk) (by decide)
 rw [Nat.mul_one, Nat.add_zero] at this
 refine ⟨this.1.trans ?_, this.2⟩
 rw [Dg.fl_at]
 rfl
theorem NR.set {w : World} {base g n : Nat} {L : Nat → Nat} (h : NR w base g n L) {k : Nat} (hk : k < n) (y : Nat) : NR (w.setCell ⟨g, k, none⟩ (.int .i64 y)) base g n (M.setL L k y) := by
 have h3 := own_set (size := 1) (cell := icell) h (k := k) (by rw [Dg.fl_len]; exact hk) (j := 0) (y := (y : Int)) (u := .int .i64 y) (by decide) rfl (fun j' h1 h2 => absurd h1 (by omega))
 rw [Nat.mul_one, Nat.add_zero, Dg.fl_set] at h3
 have e : (fun j => if j = k then (y : Int) else (L j : Int)) = fun j => ((M.setL L k y j : Nat) : Int) := by funext j; unfold M.setL; split <;> rfl
 rw [e] at h3
 exact h3
theorem NR.congr {w : World} {base g n : Nat} {L L' : Nat → Nat} (h : NR w base g n L) (e : L = L') : NR w base g n L' := e ▸ h
end Go.Proofs.YtpkepgcmifdpfaaGreatDoor
end

section
namespace Go.Proofs.YtpkepgcmifdpfaaGreatDoor
open Go Go.RowKit
set_option maxRecDepth 100000
namespace M
end M
end Go.Proofs.YtpkepgcmifdpfaaGreatDoor
end

section
namespace Go.Proofs.YtpkepgcmifdpfaaGreatDoor
open Go Go.RowKit
set_option maxRecDepth 100000
structure LW (w W : World) (PA LA : Option Addr) (ps : List P5) (l : List Mv) : Prop where
 bel : Below w.heap.size w W
 tab0 : Tab64 w
 p0 : Sl 5 p5cell w w.heap.size PA ps
 l0 : Sl 6 mvcell w w.heap.size LA l
 ints : M.Ints ps l
section
variable {w W W' : World} {PA LA : Option Addr} {ps : List P5} {l : List Mv}
theorem LW.next (h : LW w W PA LA ps l) (hb : Below W.heap.size W W') : LW w W' PA LA ps l := ⟨after_ h.bel hb, h.tab0, h.p0, h.l0, h.ints⟩
theorem LW.tab (h : LW w W PA LA ps l) : Tab64 W := h.tab0.kept h.bel
theorem LW.pairs (h : LW w W PA LA ps l) : Sl 5 p5cell W W.heap.size PA ps := (h.p0.below h.bel).more h.bel.size
theorem LW.moves (h : LW w W PA LA ps l) : Sl 6 mvcell W W.heap.size LA l := (h.l0.below h.bel).more h.bel.size
theorem LW.iw (h : LW w W PA LA ps l) : ∀ p ∈ ps, M.W64 p.a ∧ M.W64 p.b := fun p hp => ⟨(h.ints.p p hp).1, (h.ints.p p hp).2.1⟩
end
end Go.Proofs.YtpkepgcmifdpfaaGreatDoor
end

section
namespace Go.Proofs.YtpkepgcmifdpfaaGreatDoor
open Go Go.RowKit
set_option maxRecDepth 100000
namespace M
theorem err_ok {ps : List P5} {l : List Mv} {a : Int} (h : errIs ps l a) (hp : ps.length ≤ 20000) (hok : mvsOk l) : a = 0 := by
  rcases h with ⟨-, -, h⟩ | ⟨-, h2, -⟩ | ⟨h1, -⟩
  · exact h
  · omega
  · exact absurd hok h1
end M
section
variable {w W : World} {PA LA : Option Addr} {ps : List P5} {l : List Mv}
theorem LW.groups (h : LW w W PA LA ps l) (pc lc : Nat) (hp : ps.length ≤ 20000) (hl : l.length ≤ 512) (hok : M.mvsOk l) : Calls Tryz.prog 72 #[.slice PA ps.length pc, .slice LA l.length lc] W fun e w' => (∃ A c ls, e = .returned (.tuple #[.slice A ls.length c, .int .i64 0]) ∧ LO w' W.heap.size (.slice A ls.length c) ls ∧ ls.map (·.xs) = M.grps ps l) ∧ Below W.heap.size W w' := by
  refine (groups_ok PA pc ps.length ps LA lc l W h.tab rfl h.pairs h.moves (by omega) h.iw).mono ?_
  rintro e w' ⟨⟨er, her, hc⟩, hb⟩
  refine ⟨?_, hb⟩
  rcases hc with ⟨h1, -⟩ | ⟨-, A, c, ls, rfl, hlo, hls⟩
  · exact absurd (M.err_ok her hp hok) h1
  · exact ⟨A, c, ls, rfl, hlo, hls⟩
theorem LW.legal (h : LW w W PA LA ps l) (pc lc : Nat) (OA : Option Addr) (oc : Nat) (os : List SLc) (hO : LL W OA os) (hol : os.length ≤ 9223372036854775806) (hoi : ∀ s ∈ os, s.xs.length ≤ 9223372036854775806 ∧ ∀ x ∈ s.xs, M.W64 x) (hp : ps.length ≤ 20000) (hl : l.length ≤ 512) (hok : M.mvsOk l) : Calls Tryz.prog 67 #[.slice PA ps.length pc, .slice LA l.length lc, .slice OA os.length oc] W fun e w' => e = .returned (.int .i64 (M.legal ps l (os.map (·.xs)))) ∧ Below W.heap.size W w' := by
  refine (legal_ok PA pc ps.length ps LA lc l OA oc os W h.tab rfl h.pairs h.moves (by omega) h.iw hO hol hoi).mono ?_
  rintro e w' ⟨⟨er, her, hc⟩, hb⟩
  refine ⟨?_, hb⟩
  rcases hc with ⟨h1, -⟩ | ⟨-, rfl⟩
  · exact absurd (M.err_ok her hp hok) h1
  · rfl
end
end Go.Proofs.YtpkepgcmifdpfaaGreatDoor
end
