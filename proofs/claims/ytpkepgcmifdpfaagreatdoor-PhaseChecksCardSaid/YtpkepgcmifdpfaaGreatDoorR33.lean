/- A bundle of texts: Rd2, Rd3, Rd4, Rd5, GrD, Rd6, Rd7, Ld, Ld2. -/
import Derived.Test.YtpkepgcmifdpfaaGreatDoorR25
import Derived.Test.YtpkepgcmifdpfaaGreatDoorR07
import Derived.Test.YtpkepgcmifdpfaaGreatDoorR19
section
namespace Go.Proofs.YtpkepgcmifdpfaaGreatDoor
open Go Go.RowKit
set_option maxRecDepth 100000
namespace M
end M
end Go.Proofs.YtpkepgcmifdpfaaGreatDoor
end

section
namespace Go.Proofs.YtpkepgcmifdpfaaGreatDoor
open Go Go.RowKit
set_option maxRecDepth 100000
namespace M
theorem scc_inG {R : List Nat} (h : Dg.Ok R) {v j : Nat} (hv : v < R.length) (hj : j < R.length) : (Dg.scc R v).testBit j = inG (dep R) v j := by
  rw [inG_eq h hv hj, Bool.eq_iff_iff, Dg.scc_bit h hv, Dg.grp_iff h]
def lstK (lst : Nat → Bool) (d : Tb) (v k : Nat) : Nat → Bool := fun j => lst j || (decide (j < k) && inG d v j)
theorem RG.go {R done left : List Nat} {S n : Nat} {lst : Nat → Bool} (h : Dg.Ok R) (hn : R.length = n) (r : RG R done left S) (hl : ∀ j, j < n → lst j = S.testBit j) (hc : cntB n lst < n) :
    ∃ v, v < n ∧ lst v = false ∧ rdyT (dep R) lst n v = true ∧ (∀ j, j < v → lst j = true ∨ rdyT (dep R) lst n j = false) ∧ (∀ k, k < n → inG (dep R) v k = true → lst k = false) ∧
      ∃ left' S', RG R (done ++ [v]) left' S' ∧ ∀ j, j < n → lstK lst (dep R) v n j = S'.testBit j := by
  subst hn
  obtain ⟨j, hj, hlj⟩ := cntB_lt hc
  obtain ⟨v, h1, h2, h3, h4⟩ := r.at h hj (by rw [← hl j hj]; exact hlj)
  unfold Dg.rfirst at h1
  rw [Dg.find_first List.pairwise_lt_range] at h1
  obtain ⟨-, h5, h6⟩ := h1
  rw [Bool.and_eq_true, Bool.not_eq_true'] at h5
  refine ⟨v, h2, by rw [hl v h2]; exact h5.1, by rw [rdyT_eq h h2 hl]; exact h5.2, fun u hu => ?_, fun k hk hg => ?_, _, _, h4, fun k hk => ?_⟩
  · have hul : u < R.length := by omega
    rw [hl u hul, rdyT_eq h hul hl]
    cases hs : S.testBit u with
    | true => exact .inl rfl
    | false =>
      right
      cases hr : Dg.rdy R S u with
      | false => rfl
      | true =>
        have := h6 u (by simpa using hul) (by rw [hs, hr]; rfl)
        omega
  · rw [hl k hk]
    exact h3 k (by rw [scc_inG h h2 hk]; exact hg)
  · unfold lstK
    rw [Nat.testBit_or, scc_inG h h2 hk, hl k hk, decide_eq_true hk, Bool.true_and]
end M
structure RGS (w W : World) (g gl n base : Nat) (b : Nat → Nat) (d : M.Tb) (lst : Nat → Bool) (vO : Value) (os : List SLc) : Prop where
  bel : Below w.heap.size w W
  tb : TB W w.heap.size g n n b d
  bl : BR W w.heap.size gl n lst
  lo : LO W base vO os
section
variable {w W W' : World} {g gl n base : Nat} {b : Nat → Nat} {d : M.Tb} {lst : Nat → Bool} {vO : Value} {os : List SLc}
theorem RGS.next (h : RGS w W g gl n base b d lst vO os) (hb : Below W.heap.size W W') : RGS w W' g gl n base b d lst vO os := ⟨after_ h.bel hb, h.tb.next hb, own_below h.bl hb, h.lo.below hb⟩
theorem own_nn (v : Value) : v.ownBlock = none ∨ v.ownBlock ≠ none := by cases v.ownBlock <;> simp
theorem RGS.grow {row : Option Nat} {C : Nat} (h : RGS w W g gl n base b d lst vO os) (hg : W.grownBy W' row) (hr : ∀ r, row = some r → C ≤ r) (hC : w.heap.size ≤ C) (hl : g < C ∧ gl < C ∧ (∀ i, i < n → b i < C) ∧ (∀ r, vO.ownBlock = some r → r < C) ∧ ∀ s ∈ os, ∀ r, (Value.slice s.A s.xs.length s.c).ownBlock = some r → r < C) : RGS w W' g gl n base b d lst vO os := by
  obtain ⟨h1, h2, h3, h4, h5⟩ := hl
  refine ⟨h.bel.grown hg h.bel.size (fun k e => Nat.le_trans hC (hr k e)), h.tb.kept hg (fun e => by have := hr _ e; omega) (fun i hi e => by have := hr _ e; have := h3 i hi; omega), h.bl.kept hg (.inr (fun e => by have h9 : C ≤ gl := hr gl e.symm; omega)), ?_⟩
  cases row with
  | none => exact ⟨h.lo.outer.kept hg (own_nn _), fun s hs => (h.lo.inner s hs).kept hg (own_nn _)⟩
  | some r =>
    have hrr := hr r rfl
    exact h.lo.off hg (fun e => by have := h4 r e; omega) (fun s hs e => by have := h5 s hs r e; omega)
theorem RGS.push (h : RGS w W g gl n base b d lst vO os) {v' : Value} {s : SLc} (hi : W.ownsRow base 3 1 (.slice s.A s.xs.length s.c) s.xs.length (flat 1 icell s.xs)) (hb : Below w.heap.size w W') (ho : W'.ownsRow base 29 1 v' (os.length + 1) (flat 1 slcell (os ++ [s]))) (hg : W.grownBy W' vO.ownBlock) : RGS w W' g gl n base b d lst v' (os ++ [s]) := by
  have hne : ∀ {x : Nat} {e : TypeId} {bb : Nat} {xs : List Value}, W.ownsRow bb e 1 (.slice (some ⟨x, 0, none⟩) n n) n xs → e ≠ 29 → vO.ownBlock ≠ some x := fun {x e bb xs} h1 h2 => by
    rcases own_ne h1 h.lo.outer h2 with h3 | h3
    · cases h3
    · exact fun e2 => h3 e2.symm
  exact ⟨hb, h.tb.kept hg (hne h.tb.outer (by decide)) (fun i hi => hne (h.tb.row i hi) (by decide)), h.bl.kept hg (own_ne h.bl h.lo.outer (by decide)), h.lo.push hi ho hg⟩
theorem RGS.list (h : RGS w W g gl n base b d lst vO os) (hs : w.heap.size ≤ gl ∧ g < gl ∧ gl < base ∧ ∀ i, i < n → b i < gl) {k : Nat} (hk : k < n) : RGS w (W.setCell ⟨gl, k, none⟩ (.bool true)) g gl n base b d (M.setB lst k) vO os :=
  ⟨h.bel.setCell (p := ⟨gl, k, none⟩) hs.1 _, h.tb.kept (grown_set W gl k (.bool true)) (fun e => by have e2 : gl = g := Option.some.inj e; omega) (fun i hi e => by have e2 : gl = b i := Option.some.inj e; have := hs.2.2.2 i hi; omega), h.bl.set hk true, h.lo.far (grown_set W gl k (.bool true)) hs.2.2.1⟩
end
end Go.Proofs.YtpkepgcmifdpfaaGreatDoor
end

section
namespace Go.Proofs.YtpkepgcmifdpfaaGreatDoor
open Go Go.RowKit
set_option maxRecDepth 100000
namespace Bs
end Bs
namespace M
end M
end Go.Proofs.YtpkepgcmifdpfaaGreatDoor
end

section
namespace Go.Proofs.YtpkepgcmifdpfaaGreatDoor
open Go Go.RowKit
set_option maxRecDepth 100000
end Go.Proofs.YtpkepgcmifdpfaaGreatDoor
end

section
namespace Go.Proofs.YtpkepgcmifdpfaaGreatDoor
open Go Go.RowKit
set_option maxRecDepth 100000
namespace Dg
end Dg
theorem Box.same {w : World} {b : Nat} {cs : Array Value} {t : TypeId} (h : Box w b cs t) {i : Nat} {v : Value} (hv : cs[i]? = some v) : w.setCell ⟨b, i, none⟩ v = w := by
  have hh : (w.setCell ⟨b, i, none⟩ v).heap = w.heap := by
    apply Array.ext_getElem?
    intro k
    by_cases e : b = k
    · subst e
      have h1 := h.set i v
      unfold Box at h h1
      rw [h1, h]
      have : cs.setIfInBounds i v = cs := by
        apply Array.ext_getElem?
        intro j
        rw [Array.getElem?_setIfInBounds]
        split
        · rename_i e; subst e
          split
          · exact hv.symm
          · rename_i hj
            rw [Array.getElem?_eq_none (by omega)] at hv
            cases hv
        · rfl
      rw [this]
    · exact heap_setCell_other w ⟨b, i, none⟩ k v (fun h => e h.symm)
  show { w with heap := (w.setCell ⟨b, i, none⟩ v).heap } = w
  rw [hh]
structure DS (w2 W : World) (base n g9 b9 : Nat) (D : Nat → Nat) (v : Value) (ls : List SLc) : Prop where
  bel : Below w2.heap.size w2 W
  lo : LO W base v ls
  x9 : Box W b9 #[.slice (some ⟨g9, 0, none⟩) n n] 29
  o9 : W.ownsRow w2.heap.size 3 1 (.slice (some ⟨g9, 0, none⟩) n n) n (flat 1 icell (Dg.fl n fun j => (D j : Int)))
section
variable {w2 W W' : World} {base n g9 b9 : Nat} {D : Nat → Nat} {v : Value} {ls : List SLc}
theorem DS.next (h : DS w2 W base n g9 b9 D v ls) (hb : Below W.heap.size W W') : DS w2 W' base n g9 b9 D v ls :=
  ⟨after_ h.bel hb, h.lo.below hb, h.x9.below hb, own_below h.o9 hb⟩
theorem DS.own {row : Option Nat} {B : Nat} (h : DS w2 W base n g9 b9 D v ls) (hB : w2.heap.size ≤ B) (hg : W.grownBy W' row) (hr : ∀ r, row = some r → B ≤ r ∧ ∃ o : Obj, W.heap[r]? = some o ∧ o.isCells = false) : DS w2 W' base n g9 b9 D v ls :=
  ⟨below_own h.bel hB h.bel.size hg hr, h.lo.own hg hr, h.x9.own hg hr, row_own h.o9 hg hr⟩
theorem DS.cell {b i : Nat} (h : DS w2 W base n g9 b9 D v ls) (hs : w2.heap.size ≤ g9 ∧ g9 < b9) (hb : b9 < b) (hlv : v.ownBlock ≠ some b) (hli : ∀ s ∈ ls, (Value.slice s.A s.xs.length s.c).ownBlock ≠ some b) (u : Value) : DS w2 (W.setCell ⟨b, i, none⟩ u) base n g9 b9 D v ls :=
  ⟨h.bel.setCell (p := ⟨b, i, none⟩) (by dsimp only; omega) _, h.lo.off (grown_set W b i u) hlv hli, h.x9.set_other (by dsimp only; omega) _, h.o9.kept (grown_set W b i u) (.inr (fun e => by have e2 : g9 = b := Option.some.inj e; omega))⟩
theorem DS.set (h : DS w2 W base n g9 b9 D v ls) (hs : w2.heap.size ≤ g9 ∧ g9 < b9) (hb : b9 < base) {x : Nat} (hx : x < n) (y : Nat) : DS w2 (W.setCell ⟨g9, x, none⟩ (.int .i64 y)) base n g9 b9 (fun j => if j = x then y else D j) v ls := by
  refine ⟨h.bel.setCell (p := ⟨g9, x, none⟩) (by dsimp only; omega) _, h.lo.far (grown_set W g9 x _) (by omega), h.x9.set_other (by dsimp only; omega) _, ?_⟩
  have h3 := own_set (size := 1) (cell := icell) h.o9 (k := x) (by rw [Dg.fl_len]; exact hx) (j := 0) (y := (y : Int)) (u := .int .i64 y) (by decide) rfl (fun j' h1 h2 => absurd h1 (by omega))
  rw [Nat.mul_one, Nat.add_zero, Dg.fl_set] at h3
  have e : (fun j => if j = x then (y : Int) else (D j : Int)) = fun j => ((if j = x then y else D j : Nat) : Int) := by funext j; split <;> rfl
  rw [e] at h3
  exact h3
theorem DS.at (h : DS w2 W base n g9 b9 D v ls) {x : Nat} (hx : x < n) : W.cell? ⟨g9, x, none⟩ = some (.int .i64 (D x)) ∧ W.frozen? ⟨g9, x, none⟩ = false := by
  have := own_at h.o9 (k := x) (j := 0) (by rw [Dg.fl_len]; exact hx) (by decide)
  rw [Nat.mul_one, Nat.add_zero] at this
  refine ⟨this.1.trans ?_, this.2⟩
  rw [Dg.fl_at]
  rfl
end
end Go.Proofs.YtpkepgcmifdpfaaGreatDoor
end

section
namespace Go.Proofs.YtpkepgcmifdpfaaGreatDoor
open Go Go.RowKit
set_option maxRecDepth 100000
namespace M
def setL (L : Nat → Nat) (i a : Nat) : Nat → Nat := fun j => if j = i then a else L j
end M
abbrev NR (w : World) (base g n : Nat) (L : Nat → Nat) : Prop := w.ownsRow base 3 1 (.slice (some ⟨g, 0, none⟩) n n) n (flat 1 icell (Dg.fl n fun j => (L j : Int)))
theorem NR.at {w : World} {base g n : Nat} {L : Nat → Nat} (h : NR w base g n L) {k : Nat} (hk : k < n) : w.cell? ⟨g, k, none⟩ = some (.int .i64 (L k)) ∧ w.frozen? ⟨g, k, none⟩ = false := by
 have := own_at h (k := k) (j := 0) (by rw [Dg.fl_len]; exact hk) (by decide)
 rw [Nat.mul_one, Nat.add_zero] at this
 refine ⟨this.1.trans ?_, this.2⟩
 rw [Dg.fl_at]
 rfl
theorem NR.set {w : World} {base g n : Nat} {L : Nat → Nat} (h : NR w base g n L) {k : Nat} (hk : k < n) (y : Nat) : NR (w.setCell ⟨g, k, none⟩ (.int .i64 y)) base g n (M.setL L k y) := by
 have h3 := own_set (size := 1) (cell := icell) h (k := k) (by rw [Dg.fl_len]; exact hk) (j := 0) (y := (y : Int)) (u := .int .i64 y) (by decide) rfl (fun j' h1 h2 => absurd h1 (by omega))
 rw [Nat.mul_one, Nat.add_zero, Dg.fl_set] at h3
 have e : (fun j => if j = k then (y : Int) else (L j : Int)) = fun j => ((M.setL L k y j : Nat) : Int) := by funext j; unfold M.setL; split <;> rfl
 rw [e] at h3
 exact h3
theorem NR.congr {w : World} {base g n : Nat} {L L' : Nat → Nat} (h : NR w base g n L) (e : L = L') : NR w base g n L' := e ▸ h
end Go.Proofs.YtpkepgcmifdpfaaGreatDoor
end

section
namespace Go.Proofs.YtpkepgcmifdpfaaGreatDoor
open Go Go.RowKit
set_option maxRecDepth 100000
namespace M
def stN (S : List (Option Nat)) (j : Nat) : Nat := match S.getD j none with | some i => i + 1 | none => 0
theorem stN_set {S : List (Option Nat)} {v i : Nat} (hv : v < S.length) : setL (stN S) v (i + 1) = stN (S.set v (some i)) := by
  funext j
  unfold setL stN
  by_cases e : j = v
  · subst e; rw [if_pos rfl, List.getD_eq_getElem?_getD, List.getElem?_set_self hv]; rfl
  · rw [if_neg e, List.getD_eq_getElem?_getD (l := S.set v (some i)), List.getElem?_set_ne (fun h => e h.symm), ← List.getD_eq_getElem?_getD]
theorem stN_some {S : List (Option Nat)} {j : Nat} : 0 < stN S j ↔ (S.getD j none).isSome = true := by
  unfold stN; cases S.getD j none <;> simp
theorem stN_start (n : Nat) : stN (List.replicate n none) = fun _ => 0 := by
  funext j
  unfold stN
  rw [List.getD_eq_getElem?_getD, List.getElem?_replicate]
  by_cases h : j < n <;> simp [h]
theorem stN_getD {S : List (Option Nat)} {j : Nat} (h : 0 < stN S j) : stN S j = (S.getD j none).getD 0 + 1 := by
  unfold stN at *; cases hs : S.getD j none with
  | none => rw [hs] at h; exact absurd h (by simp)
  | some i => rfl
theorem any_none {S : List (Option Nat)} {j : Nat} (hj : j < S.length) (h : stN S j = 0) : S.any (fun o => o.isNone) = true := by
  rw [List.any_eq_true]
  refine ⟨S[j], List.getElem_mem hj, ?_⟩
  have := stN_some (S := S) (j := j)
  rw [h, List.getD_eq_getElem?_getD, List.getElem?_eq_getElem hj, Option.getD_some] at this
  cases hs : S[j] with
  | none => rfl
  | some i => rw [hs] at this; exact absurd (this.2 rfl) (by omega)
theorem none_any {S : List (Option Nat)} (h : ∀ j, j < S.length → stN S j ≠ 0) : S.any (fun o => o.isNone) = false := by
  rw [List.any_eq_false]
  intro o ho
  obtain ⟨j, hj, rfl⟩ := List.getElem_of_mem ho
  have := stN_some.1 (Nat.pos_of_ne_zero (h j hj))
  rw [List.getD_eq_getElem?_getD, List.getElem?_eq_getElem hj, Option.getD_some] at this
  cases hs : S[j] with
  | none => rw [hs] at this; cases this
  | some i => simp
end M
set_option maxHeartbeats 32000000 in
theorem rLegal_ok (PA : Option Addr) (pc np : Nat) (ps : List P5) (LA : Option Addr) (lc : Nat) (l : List Mv) (OA : Option Addr) (oc : Nat) (os : List SLc) (w : World) (hnp : np = ps.length) (hP : Sl 5 p5cell w w.heap.size PA ps) (hL : Sl 6 mvcell w w.heap.size LA l) (hl : l.length ≤ 9223372036854775806) (hi : M.Ints ps l) (hO : LL w OA os) (hol : os.length ≤ 1000000) (hoi : ∀ s ∈ os, s.xs.length ≤ 1000000) :
    Calls Tryz.prog 41 #[.slice PA np pc, .slice LA l.length lc, .slice OA os.length oc] w fun e w' => (∃ er, M.errIs ps l er ∧ ((er ≠ 0 ∧ e = .returned (.int .i64 er)) ∨ (er = 0 ∧ e = .returned (.int .i64 (M.legal ps l (os.map (·.xs))))))) ∧ Below w.heap.size w w' := by
  obtain ⟨ii, hii, hzi0, hzi1, hzi2⟩ := info_parts inInfo
  have Hii := Lib.hid hii; have Hzi0 := Lib.hid hzi0; have Hzi1 := Lib.hid hzi1; have Hzi2 := Lib.hid hzi2
  clear hii hzi0 hzi1 hzi2
  have kE := rError_ok PA pc np ps LA lc l w hnp hL hl
  have KW := Lib.hid (fun (hp : ps.length ≤ 20000) (i k : Nat) (h1 : i < l.length) (h2 : k < l.length) (u : World) (hu : Below w.heap.size w u) => rWaits_in PA pc np ps l w hnp hP (by omega) hi h1 h2 u hu)
  have KA := Lib.hid (fun (h2 : l.length ≤ 512) (st : Int) (u : World) (hu : Below w.heap.size w u) => rAt_ok LA lc l st u ((hL.below hu).more hu.size) (by omega))
  have HL : Hid (∀ W, Below w.heap.size w W → Sl 6 mvcell W w.heap.size LA l) := Lib.hid (fun W hb => hL.below hb)
  have HOI := Lib.hid hoi
  clear hnp hP hi hL hoi
  go_enter Tryz.func41, Tryz.ntmps41
  go_wp2_with fail
  refine kE.mono ?_
  rintro e w2 ⟨⟨er, rfl, her⟩, hb2⟩
  clear kE
  have HER := Lib.hid her
  by_cases he0 : er = 0
  case neg =>
    have q1 : (er != 0) = true := by simpa using he0
    have HE0 := Lib.hid he0
    clear her he0
    go_wp2_with fail
    go_ret
    exact ⟨⟨er, HER.out, .inl ⟨HE0.out, rfl⟩⟩, hb2⟩
  case pos =>
    subst he0
    have hok : M.mvsOk l ∧ ps.length ≤ 20000 := by
      rcases her with ⟨h1, h2, -⟩ | ⟨-, -, h⟩ | ⟨-, h⟩
      · exact ⟨h1, h2⟩
      · cases h
      · cases h
    have hl512 := hok.1.1
    have KW2 := Lib.hid (KW.out hok.2)
    have KA2 := Lib.hid (KA.out hl512)
    clear her hok KW KA
    go_wp2_with (at_make; refine wpList_make_full _ rfl _ _ 29 rfl w2.heap.size 3 ii _ 1 Tryz.underlying29 Hii.out Hzi0.out Hzi1.out .i64 .i64 _ _ l.length rfl rfl rfl rfl (by rw [Hzi2.out]; omega) (by unfold maxLen; omega) (Nat.le_refl _) ?_; intro w4 hown4 hg4)
    have em := made_flat (cell := icell) (size := 1) (x0 := (0 : Int)) (by decide) (Value.int .i64 0).cells rfl l.length
    rw [em] at hown4
    clear em
    have nr0 : NR w4 w2.heap.size w2.heap.size l.length (M.stN (List.replicate l.length none)) := by
      rw [M.stN_start]
      unfold NR
      rw [show Dg.fl l.length (fun _ => ((0 : Nat) : Int)) = List.replicate l.length 0 by unfold Dg.fl; rw [List.map_const', List.length_range]; rfl]
      exact hown4
    have B4 : Below w2.heap.size w2 w4 := (Below.refl _ _).grown hg4 (Nat.le_refl _) (by simp)
    clear hown4 hg4
    refine wp_loop_mrg [9, 10, 11, 24, 25, 26, 27, 28, 29, 30, 31, 32, 33, 34, 35, 36, 37, 38, 39, 40, 41, 42, 43, 44, 45, 46, 47, 48, 49, 50, 51, 52, 53, 54, 55, 56, 57, 58, 59, 60, 61] (fun mm f ds W0 => ds = [] ∧ ∃ (i : Nat) (S : List (Option Nat)), f 9 = .int .i64 i ∧ mm = os.length - i ∧ i ≤ os.length ∧ Below w2.heap.size w2 W0 ∧ NR W0 w2.heap.size w2.heap.size l.length (M.stN S) ∧ Hid (S.length = l.length ∧ M.place l S (M.flatO i ((os.map (·.xs)).drop i)) = M.setOf l (os.map (·.xs)))) os.length ⟨rfl, 0, List.replicate l.length none, rfl, rfl, Nat.zero_le _, B4, nr0, Lib.hid ⟨List.length_replicate, rfl⟩⟩ ?_
    clear nr0 B4
    intro c1' T1' hc2 hT2
    rintro mm f ds W0 ⟨rfl, i, S, hf9, rfl, hi, hB, hnr, HS⟩
    replace hc2 := hc2.out
    subst hc2
    replace hT2 := hT2.out
    subst hT2
    generalize hF : mrgF _ 0 _ _ = F
    simp only [mrg_hit, mrg_miss, mrg_end, Nat.reduceBEq, Nat.reduceAdd] at hF
    rw [hf9] at hF
    subst hF
    by_cases hlt : i < os.length
    · have x0i : (0 : Int) ≤ (i : Int) := by omega
      have x1i : (i : Int) < (os.length : Int) := by omega
      have q0i : decide ((i : Int) < (os.length : Int)) = true := decide_eq_true x1i
      have HOU : Hid (∀ W, Below w2.heap.size w2 W → ∃ la, OA = some la ∧ (la.add i).block < W.heap.size ∧ W.cell? (la.add i) = some (slcell os[i] 0)) := Lib.hid (fun W hb => (hO.next (after_ hb2 hb)).outer.one_at hlt)
      have HIN : Hid (∀ W, Below w2.heap.size w2 W → Sl 1 icell W W.heap.size os[i].A os[i].xs) := Lib.hid (fun W hb => (hO.next (after_ hb2 hb)).inner _ (List.getElem_mem hlt))
      have HFD : Hid (M.flatO i ((os.map (·.xs)).drop i) = os[i].xs.map (fun st => (i, st)) ++ M.flatO (i + 1) ((os.map (·.xs)).drop (i + 1))) := Lib.hid (by rw [M.flatO_drop (by simpa using hlt), List.getElem_map])
      have hsl := HOI.out os[i] (List.getElem_mem hlt)
      generalize os[i] = s at *
      have HS0 : Hid (S.length = l.length ∧ M.place l S ((s.xs.map (fun st => (i, st))).drop 0 ++ M.flatO (i + 1) ((os.map (·.xs)).drop (i + 1))) = M.setOf l (os.map (·.xs))) := Lib.hid ⟨HS.out.1, by rw [List.drop_zero, ← HFD.out]; exact HS.out.2⟩
      clear HS HFD
      go_wp2_with fail
      refine wp_loop_mrg [10, 11, 30, 31, 32, 33, 34, 35, 36, 37, 38, 39, 40, 41, 42, 43, 44, 45, 46, 47, 48, 49, 50, 51, 52, 53, 54, 55, 56, 57, 58, 59, 60, 61] (fun mm f ds W1 => ds = [] ∧ ∃ (j : Nat) (S : List (Option Nat)), f 10 = .int .i64 j ∧ mm = s.xs.length - j ∧ j ≤ s.xs.length ∧ Below w2.heap.size w2 W1 ∧ NR W1 w2.heap.size w2.heap.size l.length (M.stN S) ∧ Hid (S.length = l.length ∧ M.place l S ((s.xs.map (fun st => (i, st))).drop j ++ M.flatO (i + 1) ((os.map (·.xs)).drop (i + 1))) = M.setOf l (os.map (·.xs)))) s.xs.length ⟨rfl, 0, S, rfl, rfl, Nat.zero_le _, hB, hnr, HS0⟩ ?_
      clear hB hnr HS0
      intro c2' T2' hc2 hT2
      rintro mm f ds W1 ⟨rfl, j, S1, hf10, rfl, hj, hB1, hnr1, HS1⟩
      replace hc2 := hc2.out
      subst hc2
      replace hT2 := hT2.out
      subst hT2
      generalize hF : mrgF _ 0 _ _ = F
      simp only [mrg_hit, mrg_miss, mrg_end, Nat.reduceBEq, Nat.reduceAdd] at hF
      rw [hf10] at hF
      subst hF
      obtain ⟨la, hla, hlb, a0⟩ := HOU.out W1 hB1
      rw [show slcell s 0 = .slice s.A s.xs.length s.c from rfl] at a0
      have HLA := Lib.hid hla
      subst hla
      by_cases hjl : j < s.xs.length
      · have x0j : (0 : Int) ≤ (j : Int) := by omega
        have x1j : (j : Int) < (s.xs.length : Int) := by omega
        have q0j : decide ((j : Int) < (s.xs.length : Int)) = true := decide_eq_true x1j
        obtain ⟨lb, hlb1, hlb2, b0⟩ := (HIN.out W1 hB1).int_at hjl
        have HMC : Hid ((s.xs.map (fun st => (i, st))).drop j = (i, s.xs[j]) :: (s.xs.map (fun st => (i, st))).drop (j + 1)) := Lib.hid (by rw [List.drop_eq_getElem_cons (by simpa using hjl), List.getElem_map])
        generalize s.xs[j] = st at *
        have HSP : Hid (M.place l S1 ((i, st) :: ((s.xs.map (fun st => (i, st))).drop (j + 1) ++ M.flatO (i + 1) ((os.map (·.xs)).drop (i + 1)))) = M.setOf l (os.map (·.xs))) := Lib.hid (by
          have h := HS1.out.2
          rw [HMC.out, List.cons_append] at h
          exact h)
        have HSL := Lib.hid HS1.out.1
        clear HS1 HMC
        have kA := KA2.out st W1 (after_ hb2 hB1)
        unfold M.idxI at kA
        obtain ⟨ix, hix⟩ : ∃ ix, M.idx l st = ix := ⟨_, rfl⟩
        have HIX := Lib.hid hix
        have HIL := Lib.hid (fun (v : Nat) (h : ix = some v) => (M.idx_some (hix.trans h)).1)
        rw [hix] at kA
        clear hix
        rw [hlb1] at a0
        have HLB := Lib.hid hlb1
        clear hlb1
        go_wp2_with fail
        refine kA.mono ?_
        rintro e w5 ⟨rfl, hb5⟩
        clear kA a0 b0
        have B5 := after_ hB1 hb5
        have nr5 := own_below hnr1 hb5
        clear hnr1
        cases ix with
        | none =>
          dsimp only
          have HF := Lib.hid (M.legal_two (ps := ps) (l := l) (order := os.map (·.xs)) (by rw [← HSP.out]; exact M.place_none HIX.out))
          have q1 : decide ((-1 : Int) < 0) = true := rfl
          go_wp2_with fail
          go_ret
          exact ⟨⟨0, HER.out, .inr ⟨rfl, by rw [HF.out] <;> rfl⟩⟩, after_ hb2 B5⟩
        | some v =>
          dsimp only
          have hv := HIL.out v rfl
          clear HIL
          have xv0 : (0 : Int) ≤ (v : Int) := by omega
          have xv1 : (v : Int) < (l.length : Int) := by omega
          have q1 : decide ((v : Int) < 0) = false := decide_eq_false (by omega)
          obtain ⟨c1, f1⟩ := NR.at nr5 hv
          have HNR := Lib.hid nr5
          obtain ⟨y, hy⟩ : ∃ y, M.stN S1 v = y := ⟨_, rfl⟩
          rw [hy] at c1
          have HY := Lib.hid hy
          clear nr5 hy
          by_cases hy0 : 0 < y
          · have q2 : decide ((0 : Int) < (y : Int)) = true := decide_eq_true (by omega)
            have q3 : decide (0 < y) = true := decide_eq_true hy0
            have HF := Lib.hid (M.legal_two (ps := ps) (l := l) (order := os.map (·.xs)) (by rw [← HSP.out]; exact M.place_twice HIX.out (M.stN_some.1 (by rw [HY.out]; exact hy0))))
            clear hy0
            go_wp2_with fail
            go_ret
            exact ⟨⟨0, HER.out, .inr ⟨rfl, by rw [HF.out] <;> rfl⟩⟩, after_ hb2 B5⟩
          · have q2 : decide ((0 : Int) < (y : Int)) = false := decide_eq_false (by omega)
            have q3 : decide (0 < y) = false := decide_eq_false hy0
            have HVS : Hid (v < S1.length) := Lib.hid (by rw [HSL.out]; exact hv)
            have HSN : Hid (S1.length = l.length ∧ M.place l (S1.set v (some i)) ((s.xs.map (fun st => (i, st))).drop (j + 1) ++ M.flatO (i + 1) ((os.map (·.xs)).drop (i + 1))) = M.setOf l (os.map (·.xs))) := Lib.hid ⟨HSL.out, by
              rw [← HSP.out]
              refine (M.place_once HIX.out ?_).symm
              cases hb : (S1.getD v none).isSome with
              | false => rfl
              | true => have := M.stN_some.2 hb; rw [HY.out] at this; exact absurd this hy0⟩
            have nr6 := NR.set HNR.out hv (i + 1)
            rw [M.stN_set HVS.out, show ((i + 1 : Nat) : Int) = (i : Int) + 1 from rfl] at nr6
            have B6 := B5.setCell (p := ⟨w2.heap.size, v, none⟩) (Nat.le_refl _) (.int .i64 ((i : Int) + 1))
            clear hy0 HSP HSL
            go_wp2_with fail
            refine ⟨rfl, s.xs.length - (j + 1), by omega, j + 1, rfl, rfl, hjl, S1.set v (some i), nr6, Lib.hid ⟨by rw [List.length_set]; exact HSN.out.1, HSN.out.2⟩⟩
      · obtain rfl : j = s.xs.length := by omega
        have q0 : decide ((s.xs.length : Int) < (s.xs.length : Int)) = false := decide_eq_false (by omega)
        have HS2 : Hid (S1.length = l.length ∧ M.place l S1 (M.flatO (i + 1) ((os.map (·.xs)).drop (i + 1))) = M.setOf l (os.map (·.xs))) := Lib.hid ⟨HS1.out.1, by
          have h := HS1.out.2
          rw [List.drop_of_length_le (by simp)] at h
          exact h⟩
        clear HS1
        go_wp2_with fail
        exact ⟨rfl, os.length - (i + 1), by omega, i + 1, rfl, rfl, hlt, S1, hnr1, HS2⟩
    · obtain rfl : i = os.length := by omega
      have q0 : decide ((os.length : Int) < (os.length : Int)) = false := decide_eq_false (by omega)
      have HST : Hid (M.setOf l (os.map (·.xs)) = some S) := Lib.hid (by
        have h := HS.out.2
        rw [List.drop_of_length_le (by simp)] at h
        rw [← h]
        rfl)
      have HSL := Lib.hid HS.out.1
      clear HS
      go_wp2_with fail
      refine wp_loop_mrg [12, 62, 63, 64, 65, 66, 67, 68, 69, 70, 71, 72] (fun mm f ds W1 => ds = [] ∧ W1 = W0 ∧ ∃ (v : Nat), f 12 = .int .i64 v ∧ mm = l.length - v ∧ v ≤ l.length ∧ Hid (∀ j, j < v → M.stN S j ≠ 0)) l.length ⟨rfl, rfl, 0, rfl, rfl, Nat.zero_le _, Lib.hid (fun j h => absurd h (by omega))⟩ ?_
      intro c3' T3' hc2 hT2
      rintro mm f ds W1 ⟨rfl, hW1, v, hf12, rfl, hv, HV⟩
      replace hc2 := hc2.out
      subst hc2
      replace hT2 := hT2.out
      subst hT2
      generalize hF : mrgF _ 0 _ _ = F
      simp only [mrg_hit, mrg_miss, mrg_end, Nat.reduceBEq, Nat.reduceAdd] at hF
      rw [hf12] at hF
      subst hF
      subst hW1
      by_cases hltv : v < l.length
      · have x0v : (0 : Int) ≤ (v : Int) := by omega
        have x1v : (v : Int) < (l.length : Int) := by omega
        have q0v : decide ((v : Int) < (l.length : Int)) = true := decide_eq_true x1v
        obtain ⟨c1, -⟩ := NR.at hnr hltv
        have HNR := Lib.hid hnr
        obtain ⟨y, hy⟩ : ∃ y, M.stN S v = y := ⟨_, rfl⟩
        rw [hy] at c1
        have HY := Lib.hid hy
        clear hnr hy
        by_cases hy0 : y = 0
        · have q2 : ((y : Int) == 0) = true := by simpa using hy0
          have HF := Lib.hid (M.legal_nine (ps := ps) HST.out (M.any_none (by rw [HSL.out]; exact hltv) (HY.out.trans hy0)))
          clear hy0
          go_wp2_with fail
          go_ret
          exact ⟨⟨0, HER.out, .inr ⟨rfl, by rw [HF.out] <;> rfl⟩⟩, after_ hb2 hB⟩
        · have q2 : ((y : Int) == 0) = false := by simpa using hy0
          have HV2 : Hid (∀ j, j < v + 1 → M.stN S j ≠ 0) := Lib.hid (fun j h => by
            by_cases e : j = v
            · subst e; rw [HY.out]; exact hy0
            · exact HV.out j (by omega))
          clear hy0 HV
          go_wp2_with fail
          exact ⟨_, rfl, rfl, l.length - (v + 1), by omega, by trivial, by trivial, v + 1, rfl, rfl, hltv, HV2⟩
      · obtain rfl : v = l.length := by omega
        have q0 : decide ((l.length : Int) < (l.length : Int)) = false := decide_eq_false (by omega)
        have HNN : Hid (S.any (fun o => o.isNone) = false) := Lib.hid (M.none_any (fun j hj => HV.out j (by rw [← HSL.out]; exact hj)))
        have HPS : Hid (∀ j, j < l.length → 0 < M.stN S j) := Lib.hid (fun j hj => Nat.pos_of_ne_zero (HV.out j hj))
        clear HV q0
        go_wp2_with fail
        refine wp_loop_mrg [13, 14, 73, 74, 75, 76, 77, 78, 79, 80, 81, 82, 83, 84, 85, 86, 87, 88, 89, 90, 91, 92, 93, 94, 95, 96, 97, 98, 99, 100, 101, 102, 103, 104, 105] (fun mm f ds W2 => ds = [] ∧ ∃ (v : Nat), f 13 = .int .i64 v ∧ mm = l.length - v ∧ v ≤ l.length ∧ Below w2.heap.size w2 W2 ∧ NR W2 w2.heap.size w2.heap.size l.length (M.stN S) ∧ Hid (∀ i k, i < v → k < l.length → M.dep0 (M.rows ps l) i k = true → ¬ M.stN S i < M.stN S k)) l.length ⟨rfl, 0, rfl, rfl, Nat.zero_le _, hB, hnr, Lib.hid (fun i k h => absurd h (by omega))⟩ ?_
        clear hB hnr
        intro c4' T4' hc2 hT2
        rintro mm f ds W2 ⟨rfl, v, hf13, rfl, hv, hB2, hnr2, HV⟩
        replace hc2 := hc2.out
        subst hc2
        replace hT2 := hT2.out
        subst hT2
        generalize hF : mrgF _ 0 _ _ = F
        simp only [mrg_hit, mrg_miss, mrg_nil, Nat.reduceBEq, Nat.reduceAdd] at hF
        rw [hf13] at hF
        subst hF
        by_cases hltv : v < l.length
        · have x0v : (0 : Int) ≤ (v : Int) := by omega
          have x1v : (v : Int) < (l.length : Int) := by omega
          have q0v : decide ((v : Int) < (l.length : Int)) = true := decide_eq_true x1v
          go_wp2_with fail
          refine wp_loop_mrg [14, 79, 80, 81, 82, 83, 84, 85, 86, 87, 88, 89, 90, 91, 92, 93, 94, 95, 96, 97, 98, 99, 100, 101, 102, 103, 104, 105] (fun mm f ds W3 => ds = [] ∧ ∃ (k : Nat), f 14 = .int .i64 k ∧ mm = l.length - k ∧ k ≤ l.length ∧ Below w2.heap.size w2 W3 ∧ NR W3 w2.heap.size w2.heap.size l.length (M.stN S) ∧ Hid (∀ k', k' < k → M.dep0 (M.rows ps l) v k' = true → ¬ M.stN S v < M.stN S k')) l.length ⟨rfl, 0, rfl, rfl, Nat.zero_le _, hB2, hnr2, Lib.hid (fun i h => absurd h (by omega))⟩ ?_
          clear hB2 hnr2
          intro c5' T5' hc2 hT2
          rintro mm f ds W3 ⟨rfl, k, hf14, rfl, hk, hB3, hnr3, HK⟩
          replace hc2 := hc2.out
          subst hc2
          replace hT2 := hT2.out
          subst hT2
          generalize hF : mrgF _ 0 _ _ = F
          simp only [mrg_hit, mrg_miss, mrg_nil, Nat.reduceBEq, Nat.reduceAdd] at hF
          rw [hf14] at hF
          subst hF
          by_cases hltk : k < l.length
          · have x0k : (0 : Int) ≤ (k : Int) := by omega
            have x1k : (k : Int) < (l.length : Int) := by omega
            have q0k : decide ((k : Int) < (l.length : Int)) = true := decide_eq_true x1k
            obtain ⟨la, hla, hlb, a0, a1, a2, a3, a4, a5⟩ := ((HL.out W3 (after_ hb2 hB3)).more (after_ hb2 hB3).size).mv6 hltv
            obtain ⟨la', hla', hlb', b0, b1, b2, b3, b4, b5⟩ := ((HL.out W3 (after_ hb2 hB3)).more (after_ hb2 hB3).size).mv6 hltk
            obtain rfl : la = la' := by rw [hla] at hla'; exact Option.some.inj hla'
            obtain ⟨c1, -⟩ := NR.at hnr3 hltv
            obtain ⟨c2, -⟩ := NR.at hnr3 hltk
            have KW1 := Lib.hid (KW2.out v k hltv hltk)
            have HYES : Hid (M.dep0 (M.rows ps l) v k = true → M.stN S v < M.stN S k → M.legal ps l (os.map (·.xs)) = 10) := Lib.hid (fun h1 h2 => M.legal_late HST.out HNN.out hltv hltk h1 (by
              have e1 := M.stN_getD (HPS.out v hltv)
              have e2 := M.stN_getD (HPS.out k hltk)
              omega))
            have HNO : Hid ((M.dep0 (M.rows ps l) v k = true → ¬ M.stN S v < M.stN S k) → ∀ k', k' < k + 1 → M.dep0 (M.rows ps l) v k' = true → ¬ M.stN S v < M.stN S k') := Lib.hid (fun h k' h2 => by
              by_cases e : k' = k
              · subst e; exact h
              · exact HK.out k' (by omega))
            clear HK
            have HNR := Lib.hid hnr3
            have hgw := (own_lt hnr3).2
            clear hnr3
            obtain ⟨r, hr⟩ : ∃ r, M.dep0 (M.rows ps l) v k = r := ⟨_, rfl⟩
            rw [hr] at KW1 HYES
            have HR := Lib.hid hr
            clear hr
            generalize l[v] = mi at *
            generalize l[k] = mk at *
            obtain ⟨y1, hy1⟩ : ∃ y, M.stN S v = y := ⟨_, rfl⟩
            obtain ⟨y2, hy2⟩ : ∃ y, M.stN S k = y := ⟨_, rfl⟩
            rw [hy1] at c1 HYES
            rw [hy2] at c2 HYES
            have HY1 := Lib.hid hy1
            have HY2 := Lib.hid hy2
            clear hy1 hy2
            have HLA := Lib.hid hla
            subst hla
            clear hla'
            have k1 : Hid (∀ u : Kept W3.heap.size W3, Calls Tryz.prog 66 #[.slice PA np pc, mvv mi, mvv mk] u.val fun e w' => e = .returned (.bool r) ∧ Below u.val.heap.size u.val w') := Lib.hid (fun u => KW1.out u.val (after_ hb2 (after_ hB3 u.h)))
            clear KW1
            cases r with
            | false =>
              have HN2 := Lib.hid (HNO.out (fun h => by rw [HR.out] at h; cases h))
              clear HNO HYES
              go_wp2_with fail
              refine wp_region_kept W3.heap.size W3 (by kernel_rfl) (by kernel_rfl) (Below.refl _ _) ?_
              repeat (go_big_quiet_step ((go_at_call 66; with_reducible exact Kept.calls (Nat.le_refl _) (k1.out _))))
              refine wpQuiet_nil ?_
              rintro w5 ⟨⟨w5x, hb5⟩, hw5⟩
              dsimp only at hw5
              subst hw5
              clear k1 c1 c2 a0 a1 a2 a3 a4 a5 b0 b1 b2 b3 b4 b5
              go_wp2_with fail
              exact ⟨_, rfl, rfl, l.length - (k + 1), by omega, by trivial, k + 1, rfl, rfl, hltk, after_ hB3 hb5, own_below HNR.out hb5, HN2⟩
            | true =>
              by_cases hyy : y1 < y2
              · have q5 : decide ((y1 : Int) < (y2 : Int)) = true := decide_eq_true (by omega)
                have q6 : decide (y1 < y2) = true := decide_eq_true hyy
                have HF := Lib.hid (HYES.out rfl hyy)
                clear HNO HYES hyy
                go_wp2_with fail
                refine wp_region_kept W3.heap.size W3 (by kernel_rfl) (by kernel_rfl) (Below.refl _ _) ?_
                repeat (go_big_quiet_step ((go_at_call 66; with_reducible exact Kept.calls (Nat.le_refl _) (k1.out _))))
                refine wpQuiet_nil ?_
                rintro w5 ⟨⟨w5x, hb5⟩, hw5⟩
                dsimp only at hw5
                subst hw5
                clear k1 c1 c2 a0 a1 a2 a3 a4 a5 b0 b1 b2 b3 b4 b5
                go_wp2_with fail
                go_ret
                exact ⟨⟨0, HER.out, .inr ⟨rfl, by rw [HF.out] <;> rfl⟩⟩, after_ hb2 (after_ hB3 hb5)⟩
              · have q5 : decide ((y1 : Int) < (y2 : Int)) = false := decide_eq_false (by omega)
                have q6 : decide (y1 < y2) = false := decide_eq_false hyy
                have HN2 := Lib.hid (HNO.out (fun _ h => hyy (by rw [HY1.out, HY2.out] at h; exact h)))
                clear HNO HYES hyy
                go_wp2_with fail
                refine wp_region_kept W3.heap.size W3 (by kernel_rfl) (by kernel_rfl) (Below.refl _ _) ?_
                repeat (go_big_quiet_step ((go_at_call 66; with_reducible exact Kept.calls (Nat.le_refl _) (k1.out _))))
                refine wpQuiet_nil ?_
                rintro w5 ⟨⟨w5x, hb5⟩, hw5⟩
                dsimp only at hw5
                subst hw5
                clear k1 c1 c2 a0 a1 a2 a3 a4 a5 b0 b1 b2 b3 b4 b5
                go_wp2_with fail
                exact ⟨_, rfl, rfl, l.length - (k + 1), by omega, by trivial, k + 1, rfl, rfl, hltk, after_ hB3 hb5, own_below HNR.out hb5, HN2⟩
          · obtain rfl : k = l.length := by omega
            have q0 : decide ((l.length : Int) < (l.length : Int)) = false := decide_eq_false (by omega)
            have HV2 : Hid (∀ i k, i < v + 1 → k < l.length → M.dep0 (M.rows ps l) i k = true → ¬ M.stN S i < M.stN S k) := Lib.hid (fun i k h => by
              by_cases e : i = v
              · subst e; exact fun h2 => HK.out k h2
              · exact HV.out i k (by omega))
            clear HV HK
            go_wp2_with fail
            exact ⟨_, rfl, rfl, l.length - (v + 1), by omega, by trivial, v + 1, rfl, rfl, hltv, hB3, hnr3, HV2⟩
        · obtain rfl : v = l.length := by omega
          have q0 : decide ((l.length : Int) < (l.length : Int)) = false := decide_eq_false (by omega)
          have HF : Hid (M.legal ps l (os.map (·.xs)) = 0) := Lib.hid (M.legal_fine HST.out HNN.out (fun v w hv hw h1 h2 => HV.out v w hv hw h1 (by
            have e1 := M.stN_getD (HPS.out v hv)
            have e2 := M.stN_getD (HPS.out w hw)
            omega)))
          clear HV
          go_wp2_with fail
          go_ret
          exact ⟨⟨0, HER.out, .inr ⟨rfl, by rw [HF.out] <;> rfl⟩⟩, after_ hb2 hB2⟩
end Go.Proofs.YtpkepgcmifdpfaaGreatDoor
end

section
namespace Go.Proofs.YtpkepgcmifdpfaaGreatDoor
open Go Go.RowKit
set_option maxRecDepth 100000
structure LW (w W : World) (PA LA : Option Addr) (ps : List P5) (l : List Mv) : Prop where
 bel : Below w.heap.size w W
 tab0 : Tab64 w
 p0 : Sl 5 p5cell w w.heap.size PA ps
 l0 : Sl 6 mvcell w w.heap.size LA l
 ints : M.Ints ps l
section
variable {w W W' : World} {PA LA : Option Addr} {ps : List P5} {l : List Mv}
theorem LW.next (h : LW w W PA LA ps l) (hb : Below W.heap.size W W') : LW w W' PA LA ps l := ⟨after_ h.bel hb, h.tab0, h.p0, h.l0, h.ints⟩
theorem LW.tab (h : LW w W PA LA ps l) : Tab64 W := h.tab0.kept h.bel
theorem LW.pairs (h : LW w W PA LA ps l) : Sl 5 p5cell W W.heap.size PA ps := (h.p0.below h.bel).more h.bel.size
theorem LW.moves (h : LW w W PA LA ps l) : Sl 6 mvcell W W.heap.size LA l := (h.l0.below h.bel).more h.bel.size
theorem LW.iw (h : LW w W PA LA ps l) : ∀ p ∈ ps, M.W64 p.a ∧ M.W64 p.b := fun p hp => ⟨(h.ints.p p hp).1, (h.ints.p p hp).2.1⟩
end
end Go.Proofs.YtpkepgcmifdpfaaGreatDoor
end

section
namespace Go.Proofs.YtpkepgcmifdpfaaGreatDoor
open Go Go.RowKit
set_option maxRecDepth 100000
namespace M
theorem err_ok {ps : List P5} {l : List Mv} {a : Int} (h : errIs ps l a) (hp : ps.length ≤ 20000) (hok : mvsOk l) : a = 0 := by
  rcases h with ⟨-, -, h⟩ | ⟨-, h2, -⟩ | ⟨h1, -⟩
  · exact h
  · omega
  · exact absurd hok h1
end M
section
variable {w W : World} {PA LA : Option Addr} {ps : List P5} {l : List Mv}
theorem LW.groups (h : LW w W PA LA ps l) (pc lc : Nat) (hp : ps.length ≤ 20000) (hl : l.length ≤ 512) (hok : M.mvsOk l) : Calls Tryz.prog 72 #[.slice PA ps.length pc, .slice LA l.length lc] W fun e w' => (∃ A c ls, e = .returned (.tuple #[.slice A ls.length c, .int .i64 0]) ∧ LO w' W.heap.size (.slice A ls.length c) ls ∧ ls.map (·.xs) = M.grps ps l) ∧ Below W.heap.size W w' := by
  refine (groups_ok PA pc ps.length ps LA lc l W h.tab rfl h.pairs h.moves (by omega) h.iw).mono ?_
  rintro e w' ⟨⟨er, her, hc⟩, hb⟩
  refine ⟨?_, hb⟩
  rcases hc with ⟨h1, -⟩ | ⟨-, A, c, ls, rfl, hlo, hls⟩
  · exact absurd (M.err_ok her hp hok) h1
  · exact ⟨A, c, ls, rfl, hlo, hls⟩
theorem LW.legal (h : LW w W PA LA ps l) (pc lc : Nat) (OA : Option Addr) (oc : Nat) (os : List SLc) (hO : LL W OA os) (hol : os.length ≤ 9223372036854775806) (hoi : ∀ s ∈ os, s.xs.length ≤ 9223372036854775806 ∧ ∀ x ∈ s.xs, M.W64 x) (hp : ps.length ≤ 20000) (hl : l.length ≤ 512) (hok : M.mvsOk l) : Calls Tryz.prog 67 #[.slice PA ps.length pc, .slice LA l.length lc, .slice OA os.length oc] W fun e w' => e = .returned (.int .i64 (M.legal ps l (os.map (·.xs)))) ∧ Below W.heap.size W w' := by
  refine (legal_ok PA pc ps.length ps LA lc l OA oc os W h.tab rfl h.pairs h.moves (by omega) h.iw hO hol hoi).mono ?_
  rintro e w' ⟨⟨er, her, hc⟩, hb⟩
  refine ⟨?_, hb⟩
  rcases hc with ⟨h1, -⟩ | ⟨-, rfl⟩
  · exact absurd (M.err_ok her hp hok) h1
  · rfl
end
end Go.Proofs.YtpkepgcmifdpfaaGreatDoor
end
