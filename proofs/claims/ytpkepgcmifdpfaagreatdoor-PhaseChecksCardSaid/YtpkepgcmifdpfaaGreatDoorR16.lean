/- A bundle of texts: Dg7. -/
import Derived.Test.YtpkepgcmifdpfaaGreatDoorR14
import Derived.Test.YtpkepgcmifdpfaaGreatDoorR07
import Derived.Test.YtpkepgcmifdpfaaGreatDoorR10
import Derived.Test.YtpkepgcmifdpfaaGreatDoorR15
section
namespace Go.Proofs.YtpkepgcmifdpfaaGreatDoor
open Go Go.RowKit
set_option maxRecDepth 100000
theorem own_ne {w : World} {b1 b2 : Nat} {e1 e2 : TypeId} {s1 s2 : Nat} {v1 v2 : Value} {n1 n2 : Nat} {x1 x2 : List Value} (h1 : w.ownsRow b1 e1 s1 v1 n1 x1) (h2 : w.ownsRow b2 e2 s2 v2 n2 x2) (hne : e1 ≠ e2) : v1.ownBlock = none ∨ v1.ownBlock ≠ v2.ownBlock := by
  rcases h1.2 with ⟨rfl, _⟩ | ⟨g, cap, cur, rfl, _, hg, _⟩
  · exact .inl rfl
  · rcases h2.2 with ⟨rfl, _⟩ | ⟨g2, cap2, cur2, rfl, _, hg2, _⟩
    · exact .inr (by simp [Value.ownBlock])
    · refine .inr (fun e => ?_)
      simp only [Value.ownBlock, Option.some.injEq] at e
      subst e
      rw [hg] at hg2
      cases hg2
      exact hne rfl
structure LO (W : World) (base : Nat) (v : Value) (ls : List SLc) : Prop where
  outer : W.ownsRow base 29 1 v ls.length (flat 1 slcell ls)
  inner : ∀ s ∈ ls, W.ownsRow base 3 1 (.slice s.A s.xs.length s.c) s.xs.length (flat 1 icell s.xs)
section
variable {W W' : World} {base : Nat} {v : Value} {ls : List SLc}
theorem LO.none_ (W : World) (base : Nat) : LO W base (.slice none 0 0) [] := ⟨own_nil _ _ _ _ _, fun s h => absurd h (by simp)⟩
theorem LO.below (h : LO W base v ls) (hb : Below W.heap.size W W') : LO W' base v ls := ⟨own_below h.outer hb, fun s hs => own_below (h.inner s hs) hb⟩
theorem LO.own {row : Option Nat} {B : Nat} (h : LO W base v ls) (hg : W.grownBy W' row) (hr : ∀ r, row = some r → B ≤ r ∧ ∃ o : Obj, W.heap[r]? = some o ∧ o.isCells = false) : LO W' base v ls :=
  ⟨row_own h.outer hg hr, fun s hs => row_own (h.inner s hs) hg hr⟩
theorem LO.far {b : Nat} (h : LO W base v ls) (hg : W.grownBy W' (some b)) (hb : b < base) : LO W' base v ls :=
  ⟨h.outer.kept hg (.inr (fun e => by have := (h.outer.lt _ e).1; omega)), fun s hs => (h.inner s hs).kept hg (.inr (fun e => by have := ((h.inner s hs).lt _ e).1; omega))⟩
theorem LO.off {b : Nat} (h : LO W base v ls) (hg : W.grownBy W' (some b)) (hv : v.ownBlock ≠ some b) (hi : ∀ s ∈ ls, (Value.slice s.A s.xs.length s.c).ownBlock ≠ some b) : LO W' base v ls :=
  ⟨h.outer.kept hg (.inr hv), fun s hs => (h.inner s hs).kept hg (.inr (hi s hs))⟩
theorem LO.push (h : LO W base v ls) {v' : Value} {s : SLc} (hi : W.ownsRow base 3 1 (.slice s.A s.xs.length s.c) s.xs.length (flat 1 icell s.xs)) (ho : W'.ownsRow base 29 1 v' (ls.length + 1) (flat 1 slcell (ls ++ [s]))) (hg : W.grownBy W' v.ownBlock) : LO W' base v' (ls ++ [s]) := by
  refine ⟨by rw [List.length_append]; exact ho, fun t ht => ?_⟩
  have hk : ∀ t : SLc, W.ownsRow base 3 1 (.slice t.A t.xs.length t.c) t.xs.length (flat 1 icell t.xs) → W'.ownsRow base 3 1 (.slice t.A t.xs.length t.c) t.xs.length (flat 1 icell t.xs) := fun t h1 => h1.kept hg (own_ne h1 h.outer (by decide))
  rcases List.mem_append.1 ht with ht | ht
  · exact hk t (h.inner t ht)
  · obtain rfl := List.mem_singleton.1 ht
    exact hk t hi
theorem LO.ll {A : Option Addr} {c : Nat} (h : LO W base (.slice A ls.length c) ls) : LL W A ls := by
  refine ⟨?_, fun s hs => Sl.of_own (by decide) (h.inner s hs)⟩
  exact Sl.of_own (by decide) h.outer
end
theorem slInfo : (Tryz.prog.info? 29).map (fun i => (i.zero, i.size, i.bytes)) = some (some (.slice none 0 0), 1, 24) := by kernel_rfl
namespace Dg
open Bs
def lft (m : Nat) (C : List Nat) : Nat := ofP (fun p => decide (p ∉ C)) m
theorem lft_bit (m : Nat) (C : List Nat) (j : Nat) : (lft m C).testBit j = (decide (j < m) && decide (j ∉ C)) := ofP_bit _ _ _
theorem lft_fit {m : Nat} (h : m ≤ 512) (C : List Nat) : Fit (lft m C) := ofP_fit h
theorem lft_nil (m : Nat) : lft m [] = 2 ^ m - 1 := ext_bit fun j => by rw [lft_bit, below_bit]; simp
theorem lft_snoc (m : Nat) (C : List Nat) (p : Nat) : lft m (C ++ [p]) = dif (lft m C) (2 ^ p) := ext_bit fun j => by
  rw [lft_bit, dif_bit, lft_bit, Nat.testBit_two_pow]
  by_cases e : p = j
  · subst e; simp
  · have e2 : ¬ j = p := fun h => e h.symm
    simp [e, e2]
theorem lft_mem {m : Nat} (h : m ≤ 512) {C : List Nat} {p : Nat} : p ∈ els (lft m C) 0 ↔ p < m ∧ p ∉ C := by
  rw [mem_els (lft_fit h C), lft_bit]; simp
theorem inc_nil (R : List Nat) (p : Nat) : inc R [] p = ((evs R R.length).count p : Int) := by simp [inc, evc]
def incd (R : List Nat) (C E : List Nat) (p : Nat) : Int := inc R C p - (E.count p : Int)
theorem incd_nil (R C : List Nat) : incd R C [] = inc R C := by funext p; simp [incd]
theorem incd_snoc (R C E : List Nat) (x p : Nat) : incd R C (E ++ [x]) p = if p = x then incd R C E x - 1 else incd R C E p := by
  unfold incd
  rw [List.count_append]
  by_cases e : p = x
  · subst e; simp; omega
  · rw [if_neg e, List.count_cons_of_ne (Ne.symm e)]; simp
theorem incd_end (R C : List Nat) (p : Nat) : incd R C (evq R p) = inc R (C ++ [p]) := by
  funext q
  unfold incd inc
  rw [evc_snoc, List.count_append]
  omega
theorem incd_bd (R C E : List Nat) (p : Nat) (h1 : R.length ≤ 512) (h2 : C.length ≤ 512) (h3 : E.length ≤ 1000000) : -1000000000 ≤ incd R C E p ∧ incd R C E p ≤ 1000000000 := by
  unfold incd inc
  have a1 := List.count_le_length (a := p) (l := evs R R.length)
  have a2 := evs_len R R.length
  have a3 := List.count_le_length (a := p) (l := evc R C)
  have a4 := evc_len R C
  have a5 := List.count_le_length (a := p) (l := E)
  omega
def evr (R : List Nat) (p : Nat) (pre : List Nat) : List Nat := pre.flatMap (evd R p)
theorem evr_snoc (R : List Nat) (p : Nat) (pre : List Nat) (v : Nat) : evr R p (pre ++ [v]) = evr R p pre ++ evd R p v := by unfold evr; rw [List.flatMap_append]; simp
theorem evr_len (R : List Nat) (p : Nat) (pre : List Nat) : (evr R p pre).length ≤ pre.length * 512 := flat_len (evd_len R p) pre
end Dg
structure CS (w1 W : World) (m n : Nat) (A1 : Option Addr) (c1 : Nat) (A2 : Option Addr) (c2 : Nat) (g5 b5 : Nat) (f : Nat → Int) : Prop where
  bel : Below w1.heap.size w1 W
  x3 : Box W w1.heap.size #[.slice A1 m c1] 213
  x4 : Box W (w1.heap.size + 1) #[.slice A2 n c2] 29
  x5 : Box W b5 #[.slice (some ⟨g5, 0, none⟩) m m] 29
  o5 : W.ownsRow w1.heap.size 3 1 (.slice (some ⟨g5, 0, none⟩) m m) m (flat 1 icell (Dg.fl m f))
section
variable {w1 W W' : World} {m n : Nat} {A1 A2 : Option Addr} {c1 c2 : Nat} {g5 b5 : Nat} {f : Nat → Int}
theorem CS.next (h : CS w1 W m n A1 c1 A2 c2 g5 b5 f) (hb : Below W.heap.size W W') : CS w1 W' m n A1 c1 A2 c2 g5 b5 f :=
  ⟨after_ h.bel hb, h.x3.below hb, h.x4.below hb, h.x5.below hb, own_below h.o5 hb⟩
theorem CS.own {row : Option Nat} {B : Nat} (h : CS w1 W m n A1 c1 A2 c2 g5 b5 f) (hB : w1.heap.size ≤ B) (hg : W.grownBy W' row) (hr : ∀ r, row = some r → B ≤ r ∧ ∃ o : Obj, W.heap[r]? = some o ∧ o.isCells = false) : CS w1 W' m n A1 c1 A2 c2 g5 b5 f :=
  ⟨below_own h.bel hB h.bel.size hg hr, h.x3.own hg hr, h.x4.own hg hr, h.x5.own hg hr, row_own h.o5 hg hr⟩
theorem CS.far {b : Nat} (h : CS w1 W m n A1 c1 A2 c2 g5 b5 f) (hs : w1.heap.size + 2 ≤ g5 ∧ g5 < b5) (hg : W.grownBy W' (some b)) (hb : b5 < b) : CS w1 W' m n A1 c1 A2 c2 g5 b5 f :=
  ⟨h.bel.grown hg h.bel.size (fun k e => by cases e; omega), h.x3.grown hg (fun e => by have := Option.some.inj e; omega), h.x4.grown hg (fun e => by have := Option.some.inj e; omega), h.x5.grown hg (fun e => by have := Option.some.inj e; omega), h.o5.kept hg (.inr (fun e => by have e2 : g5 = b := Option.some.inj e; omega))⟩
theorem CS.off {v : Value} {base : Nat} {e : TypeId} {sz k : Nat} {xs : List Value} (h : CS w1 W m n A1 c1 A2 c2 g5 b5 f) (hs : w1.heap.size + 2 ≤ g5 ∧ g5 < b5) (ho : W.ownsRow base e sz v k xs) (hbase : b5 < base) (hg : W.grownBy W' v.ownBlock) : CS w1 W' m n A1 c1 A2 c2 g5 b5 f := by
  have hne : ∀ b, b ≤ b5 → some b ≠ v.ownBlock := fun b hb e => by have := (ho.lt b e.symm).1; omega
  exact ⟨h.bel.grown hg h.bel.size (fun k e => by have := (ho.lt k e).1; omega), h.x3.grown hg (hne _ (by omega)), h.x4.grown hg (hne _ (by omega)), h.x5.grown hg (hne _ (by omega)), h.o5.kept hg (.inr (hne g5 (by omega)))⟩
theorem CS.set5 (h : CS w1 W m n A1 c1 A2 c2 g5 b5 f) (hs : w1.heap.size + 2 ≤ g5 ∧ g5 < b5) {x : Nat} (hx : x < m) (y : Int) : CS w1 (W.setCell ⟨g5, x, none⟩ (.int .i64 y)) m n A1 c1 A2 c2 g5 b5 (fun j => if j = x then y else f j) := by
  refine ⟨h.bel.setCell (p := ⟨g5, x, none⟩) (by dsimp only; omega) _, h.x3.set_other (by dsimp only; omega) _, h.x4.set_other (by dsimp only; omega) _, h.x5.set_other (by dsimp only; omega) _, ?_⟩
  have h3 := own_set (size := 1) (cell := icell) h.o5 (k := x) (by rw [Dg.fl_len]; exact hx) (j := 0) (y := y) (u := .int .i64 y) (by decide) rfl (fun j' h1 h2 => absurd h1 (by omega))
  rw [Nat.mul_one, Nat.add_zero, Dg.fl_set] at h3
  exact h3
theorem CS.at5 (h : CS w1 W m n A1 c1 A2 c2 g5 b5 f) {x : Nat} (hx : x < m) : W.cell? ⟨g5, x, none⟩ = some (.int .i64 (f x)) ∧ W.frozen? ⟨g5, x, none⟩ = false := by
  have := own_at h.o5 (k := x) (j := 0) (by rw [Dg.fl_len]; exact hx) (by decide)
  rw [Nat.mul_one, Nat.add_zero] at this
  refine ⟨this.1.trans ?_, this.2⟩
  rw [Dg.fl_at]
  rfl
structure CT (w1 W : World) (m n : Nat) (A1 : Option Addr) (c1 : Nat) (A2 : Option Addr) (c2 : Nat) (g5 b5 b9 b10 : Nat) (f : Nat → Int) (vO : Value) (ls : List SLc) (C : List Nat) : Prop where
  cs : CS w1 W m n A1 c1 A2 c2 g5 b5 f
  lo : LO W (b10 + 1) vO ls
  x9 : Box W b9 #[vO] 39
  x10 : Box W b10 (bsc (Dg.lft m C)) 169
variable {b9 b10 : Nat} {vO : Value} {ls : List SLc} {C : List Nat}
theorem CT.next (h : CT w1 W m n A1 c1 A2 c2 g5 b5 b9 b10 f vO ls C) (hb : Below W.heap.size W W') : CT w1 W' m n A1 c1 A2 c2 g5 b5 b9 b10 f vO ls C :=
  ⟨h.cs.next hb, h.lo.below hb, h.x9.below hb, h.x10.below hb⟩
theorem CT.own {row : Option Nat} {B : Nat} (h : CT w1 W m n A1 c1 A2 c2 g5 b5 b9 b10 f vO ls C) (hB : w1.heap.size ≤ B) (hg : W.grownBy W' row) (hr : ∀ r, row = some r → B ≤ r ∧ ∃ o : Obj, W.heap[r]? = some o ∧ o.isCells = false) : CT w1 W' m n A1 c1 A2 c2 g5 b5 b9 b10 f vO ls C :=
  ⟨h.cs.own hB hg hr, h.lo.own hg hr, h.x9.own hg hr, h.x10.own hg hr⟩
theorem CT.set5 (h : CT w1 W m n A1 c1 A2 c2 g5 b5 b9 b10 f vO ls C) (hs : w1.heap.size + 2 ≤ g5 ∧ g5 < b5) (hs2 : b5 < b9 ∧ b9 < b10) {x : Nat} (hx : x < m) (y : Int) : CT w1 (W.setCell ⟨g5, x, none⟩ (.int .i64 y)) m n A1 c1 A2 c2 g5 b5 b9 b10 (fun j => if j = x then y else f j) vO ls C :=
  ⟨h.cs.set5 hs hx y, h.lo.far (grown_set W g5 x _) (by omega), h.x9.set_other (by dsimp only; omega) _, h.x10.set_other (by dsimp only; omega) _⟩
theorem CT.set10 (h : CT w1 W m n A1 c1 A2 c2 g5 b5 b9 b10 f vO ls C) (hs : w1.heap.size + 2 ≤ g5 ∧ g5 < b5) (hs2 : b5 < b9 ∧ b9 < b10) {C' : List Nat} {Y : World} (hg : W.grownBy Y (some b10)) (z : Box Y b10 (bsc (Dg.lft m C')) 169) : CT w1 Y m n A1 c1 A2 c2 g5 b5 b9 b10 f vO ls C' :=
  ⟨h.cs.far hs hg (by omega), h.lo.far hg (by omega), h.x9.grown hg (fun e => by have := Option.some.inj e; omega), z⟩
theorem CT.push (h : CT w1 W m n A1 c1 A2 c2 g5 b5 b9 b10 f vO ls C) (hs : w1.heap.size + 2 ≤ g5 ∧ g5 < b5) (hs2 : b5 < b9 ∧ b9 < b10) {v' : Value} {s : SLc} (hi : W.ownsRow (b10 + 1) 3 1 (.slice s.A s.xs.length s.c) s.xs.length (flat 1 icell s.xs)) (ho : W'.ownsRow (b10 + 1) 29 1 v' (ls.length + 1) (flat 1 slcell (ls ++ [s]))) (hg : W.grownBy W' vO.ownBlock) : CT w1 (W'.setCell ⟨b9, 0, none⟩ v') m n A1 c1 A2 c2 g5 b5 b9 b10 f v' (ls ++ [s]) C := by
  have hne : ∀ b, b ≤ b10 → some b ≠ vO.ownBlock := fun b hb e => by have := (h.lo.outer.lt b e.symm).1; omega
  exact ⟨(h.cs.off hs h.lo.outer (by omega) hg).far hs (grown_set W' b9 0 _) (by omega), (h.lo.push hi ho hg).far (grown_set W' b9 0 _) (by omega), (h.x9.grown hg (hne _ (by omega))).set 0 _, (h.x10.grown hg (hne _ (by omega))).set_other (by dsimp only; omega) _⟩
end
set_option maxHeartbeats 32000000 in
theorem dgComp_ok (bg : Nat) (A : Option Addr) (c : Nat) (R : List Nat) (arcs : Int) (w : World) (ht : Tab64 w) (h : DG w bg A c R arcs) (hR : Dg.Ok R) : Calls Tryz.prog 137 #[gp bg] w fun e w' => ∃ (v : Value) (ls : List SLc) (C : List Nat), e = .returned v ∧ LO w' w.heap.size v ls ∧ ls.map (·.xs) = C.map (fun p => bsl (Bs.els (Dg.pt R p) 0)) ∧ C.Perm (List.range (Dg.leads R).length) ∧ Below w.heap.size w w' := by
  obtain ⟨i8, hi8, hz0, hz1, hz2⟩ := info_parts bsInfo
  have Hi8 := Lib.hid hi8; have Hz08 := Lib.hid hz0; have Hz18 := Lib.hid hz1; have Hz28 := Lib.hid hz2
  clear hi8 hz0 hz1 hz2
  obtain ⟨i0, hi0, hz0, hz1, hz2⟩ := info_parts intInfoD
  have Hi := Lib.hid hi0; have Hz0 := Lib.hid hz0; have Hz1 := Lib.hid hz1; have Hz2 := Lib.hid hz2
  clear hi0 hz0 hz1 hz2
  obtain ⟨il, hil, hzl0, hzl1, hzl2⟩ := info_parts slInfo
  have Hil := Lib.hid hil; have Hzl0 := Lib.hid hzl0; have Hzl1 := Lib.hid hzl1; have Hzl2 := Lib.hid hzl2
  clear hil hzl0 hzl1 hzl2
  obtain ⟨V, HW, x1, hB, hsV⟩ := boxes1 w #[gp bg] 161
  have HSV := Lib.hid hsV
  have c1' := x1.c1
  have kP := dgParts_ok bg A c R arcs V (ht.kept hB) (h.next hB) hR
  rw [Dg.parts_len] at kP
  have hl := hR.len
  have hml := Dg.leads_len R
  obtain ⟨n, hn⟩ : ∃ n, R.length = n := ⟨_, rfl⟩
  obtain ⟨m, hm⟩ : ∃ m, (Dg.leads R).length = m := ⟨_, rfl⟩
  have HN := Lib.hid hn
  have HM := Lib.hid hm
  rw [hn, hm] at kP
  rw [hn] at hl hml
  rw [hm] at hml ⊢
  clear hn hm
  have hV := HW.out
  clear hsV
  refine calls_marks Tryz.func137 rfl ?_
  simp only [Tryz.ntmps137, List.size_toArray, List.length_cons, List.length_nil, Nat.reduceAdd, Nat.reduceSub, Array.replicate_succ, Array.replicate_zero, List.push_toArray, List.append_toArray, List.nil_append, List.cons_append]
  go_wp2_with fail
  clear hV c1'
  refine kP.mono ?_
  rintro e w1 ⟨A1, c1, A2, c2, rfl, hS1, hS2, hb1⟩
  clear kP
  have B1 := after_ hB hb1
  have x11 := x1.below hb1
  obtain ⟨U, HU, x3, x4, hbU, hsU⟩ := boxes2 w1 #[.slice A1 m c1] 213 #[.slice A2 n c2] 29
  have hU := HU.out
  have HSU := Lib.hid hsU
  have c3 := x3.c1
  have c4 := x4.c1
  clear hsU
  go_wp2_with (at_make; refine wpList_make_full _ rfl _ _ 29 rfl w1.heap.size 3 i0 _ 1 Tryz.underlying29 Hi.out Hz0.out Hz1.out .i64 .i64 _ _ m rfl rfl rfl rfl (by rw [Hz2.out]; omega) (by unfold maxLen; omega) (by rw [HSU.out]; omega) ?_; intro w3 hown3 hg3; have x43 := x4.grown hg3 (by simp); obtain ⟨X, HX, x5, hbX, hsX⟩ := boxes1 w3 #[.slice (some ⟨U.heap.size, 0, none⟩) m m] 29; have d4 := (x43.below hbX).c1; have HSX := Lib.hid hsX; have hX := HX.out; clear hsX)
  clear hU hX c3 c4 d4
  have em := made_flat (cell := icell) (size := 1) (x0 := (0 : Int)) (by decide) (Value.int .i64 0).cells rfl m
  rw [em] at hown3
  clear em
  have hb3 : Below w1.heap.size w1 w3 := hbU.grown hg3 hbU.size (by simp)
  have BX : Below w1.heap.size w1 X := hb3.trans (hbX.mono hb3.size)
  have hs13 : U.heap.size < w3.heap.size := (own_lt hown3).2
  have cs0 : CS w1 X m n A1 c1 A2 c2 U.heap.size w3.heap.size (fun p => ((Dg.evs R 0).count p : Int)) := by
    refine ⟨BX, (x3.grown hg3 (by simp)).below hbX, x43.below hbX, x5, ?_⟩
    have := own_below hown3 hbX
    rw [show List.replicate m (0 : Int) = Dg.fl m (fun p => ((Dg.evs R 0).count p : Int)) by unfold Dg.fl; rw [show (fun p => ((Dg.evs R 0).count p : Int)) = fun _ => (0 : Int) from funext (fun p => by simp [Dg.evs]), List.map_const', List.length_range]] at this
    exact this
  clear x3 x4 x43 x5 hown3 hg3 hb3
  have HS5 : Hid (w1.heap.size + 2 ≤ U.heap.size ∧ U.heap.size < w3.heap.size) := Lib.hid ⟨by rw [HSU.out]; omega, hs13⟩
  have HX5 : Hid (X.heap.size = w3.heap.size + 1) := HSX
  have hw1 : w.heap.size < w1.heap.size := by have := HSV.out; have := hb1.size; omega
  clear hs13 HSU HSX HU HX hbU
  generalize U.heap.size = g5 at *
  generalize w3.heap.size = b5 at *
  have hX5 : b5 < X.heap.size := by rw [HX5.out]; omega
  refine wp_loop_mrg [6, 7, 8, 25, 26, 27, 28, 29, 30, 31, 32, 33, 34, 35, 36, 37, 38, 39, 40, 41, 42, 43, 44, 45, 46, 47, 48, 49, 50, 51, 52, 53, 54] (fun mm f ds W0 => ∃ (k : Nat), f 25 = .int .i64 k ∧ mm = n - k ∧ k ≤ n ∧ CS w1 W0 m n A1 c1 A2 c2 g5 b5 (fun p => ((Dg.evs R k).count p : Int)) ∧ b5 < W0.heap.size ∧ Marks w1.heap.size W0.heap.size ds W0) n ⟨0, rfl, rfl, Nat.zero_le _, cs0, hX5, Marks.none_⟩ ?_
  clear cs0 BX hbX HX5 hX5
  intro c2' T2' hc2 hT2
  rintro mm f ds W0 ⟨k, hf25, rfl, hk, cs, hsz, hM⟩
  replace hc2 := hc2.out
  subst hc2
  replace hT2 := hT2.out
  subst hT2
  generalize hF : mrgF _ 0 _ _ = F
  simp only [mrg_hit, mrg_miss, mrg_end, Nat.reduceBEq, Nat.reduceAdd] at hF
  rw [hf25] at hF
  subst hF
  have B0 := after_ B1 cs.bel
  by_cases hlt : k < n
  · have x0 : (0 : Int) ≤ (k : Int) := by omega
    have x1i : (k : Int) < (n : Int) := by omega
    have q0 : decide ((k : Int) < (n : Int)) = true := decide_eq_true x1i
    have hkR : k < R.length := by rw [HN.out]; exact hlt
    have hS2' := (hS2.below cs.bel).more cs.bel.size
    obtain ⟨la2, hla2, hlb2, a9⟩ := hS2'.int_at (k := k) (by rw [Dg.fl_len]; exact hlt)
    rw [Dg.fl_at] at a9
    subst hla2
    obtain ⟨X7, HX7, x7, hbX7, hsX7⟩ := boxes1 W0 #[.int .i64 (Dg.pidx R k : Int)] 3
    have HSX7 := Lib.hid hsX7
    have pX := cs.next hbX7
    have hDG := h.next (after_ B0 hbX7)
    obtain ⟨la, hla, hlb, a0, a1, a2, a3, a4, a5, a6, a7⟩ := hDG.rows.bs8 hkR
    rw [← row_at hkR] at a0 a1 a2 a3 a4 a5 a6 a7
    have HRW : Hid (R.length = n) := HN
    obtain ⟨e0, e1, e2⟩ := hDG.box.c3
    rw [HN.out] at e1
    have z1 := ((x11.below cs.bel).below hbX7).c1
    subst hla
    have hX7 := HX7.out
    clear hsX7
    go_wp2_with fail
    clear hX7 a9 a0 a1 a2 a3 a4 a5 a6 a7 e0 e1 e2 z1
    refine (bsAll_ok (Dg.row R k) X7).mono ?_
    rintro e w4 ⟨rfl, hb4, hs4, xb⟩
    have p4 := pX.next hb4
    have z7 := x7.below hb4
    have hM4 := (hM.below hbX7).below hb4
    have l7 : W0.heap.size < X7.heap.size := x7.lt
    clear pX cs x7 hM
    go_wp2_with fail
    refine wp_range (gf := 123) (lb := #[.pointer (some ⟨X7.heap.size, 0, none⟩)]) rfl (enters_of Tryz.func123 (by kernel_rfl) rfl) (bsAll_seq X7.heap.size (Dg.row R k)) (fun _ => rfl)
      (fun pre W => CS w1 W m n A1 c1 (some la2) c2 g5 b5 (fun p => ((Dg.evs R k ++ Dg.evp R k pre).count p : Int)) ∧ Box W W0.heap.size #[.int .i64 (Dg.pidx R k : Int)] 3 ∧ Box W X7.heap.size (bsc (Dg.row R k)) 169 ∧ Marks w1.heap.size w4.heap.size ds W) (fun _ _ _ => False)
      ?hI (fun _ _ _ _ _ h => h.elim) ?hK ⟨by simpa [Dg.evp] using p4, z7, xb, hM4.more (by have := hbX7.size; have := hb4.size; omega)⟩ ?round ?done (fun _ _ _ h => h.elim)
    case hI => exact fun pre W W' row ⟨h1, h2, h3, h4⟩ hg hr => ⟨h1.own p4.bel.size hg hr, h2.own hg hr, h3.own hg hr, h4.own (Nat.le_refl _) hg hr⟩
    case hK => exact fun pre W ⟨h1, h2, h3, h4⟩ => ⟨h3, ht.kept (after_ B1 h1.bel)⟩
    case round =>
      intro r' pre x post W hL hl' hd hi
      gi_wp2
      refine ⟨hl', hd, hi, fun _ => True, fun _ _ _ _ _ _ _ => trivial, trivial, ?_⟩
      clear hl' hd hi
      rintro r'' W2 hl' hd ⟨h1, h2, h3, h4⟩ -
      have hxb : (Dg.row R k).testBit x = true := (Bs.mem_els (hR.row_fit k)).1 (by rw [hL]; simp)
      have hxR : x < R.length := hR.fit _ _ hxb
      have hxn : x < n := by have := HN.out; omega
      have HP := Lib.hid (Dg.evp_snoc R k pre x)
      have hpl : pre.length < 512 := by have := Bs.els_len (Dg.row R k) 0; rw [hL] at this; simp at this; omega
      have HB1 : Hid ((Dg.evs R k ++ Dg.evp R k pre).length ≤ 300000) := Lib.hid (by rw [List.length_append]; have := Dg.evs_len R k; have := Dg.evp_len R k pre; omega)
      have hpm : Dg.pidx R x < m := by have := Dg.pidx_lt hR hxR; rw [HM.out] at this; exact this
      clear hL hxb
      obtain ⟨la', hla, hlb', a9⟩ := ((hS2.below h1.bel).more h1.bel.size).int_at (k := x) (by rw [Dg.fl_len]; exact hxn)
      obtain rfl := Option.some.inj hla
      rw [Dg.fl_at] at a9
      have c4 := h1.x4.c1
      have c7 := h2.c1
      have lx4 := h1.x4.lt
      have lx7 := h2.lt
      have hlx : (la2.add x).block < W2.heap.size := by rw [add_block]; exact hlb'
      have y0 : (0 : Int) ≤ (x : Int) := by omega
      have y1 : (x : Int) < (n : Int) := by omega
      generalize hpx : Dg.pidx R x = px at *
      generalize hpk : Dg.pidx R k = pk at *
      have HPX := Lib.hid hpx
      have HPK := Lib.hid hpk
      clear hpx hpk
      gi_wp2_with fail
      by_cases hne : px = pk
      · have q1 : ((px : Int) == (pk : Int)) = true := by simpa using (by omega : (px : Int) = (pk : Int))
        have q2 : ((px : Int) != (pk : Int)) = false := by simpa using (by omega : (px : Int) = (pk : Int))
        refine wpIn_region_keptN W2.heap.size W2 (by kernel_rfl) (by kernel_rfl) (by kernel_rfl) (Below.refl _ _) ?_
        repeat (go_big_quiet_step (fail))
        refine wpQuiet_nil ?_
        rintro w6 ⟨⟨_, hb6⟩, rfl⟩
        have HP2 : Hid (Dg.evp R k (pre ++ [x]) = Dg.evp R k pre) := Lib.hid (by rw [HP.out, if_neg (by omega)])
        clear HP c4 c7 a9 hne q1
        gi_wp2_with fail
        rw [HP2.out]
        exact ⟨hl'.below hb6, hd.below hb6, h1.next hb6, h2.below hb6, h3.below hb6, h4.below hb6⟩
      · have q1 : ((px : Int) == (pk : Int)) = false := by simpa using (by omega : ¬ (px : Int) = (pk : Int))
        have q2 : ((px : Int) != (pk : Int)) = true := by simpa using (by omega : ¬ (px : Int) = (pk : Int))
        refine wpIn_region_keptN W2.heap.size W2 (by kernel_rfl) (by kernel_rfl) (by kernel_rfl) (Below.refl _ _) ?_
        repeat (go_big_quiet_step (fail))
        refine wpQuiet_nil ?_
        rintro w6 ⟨⟨_, hb6⟩, rfl⟩
        have HP2 : Hid (Dg.evp R k (pre ++ [x]) = Dg.evp R k pre ++ [px]) := Lib.hid (by rw [HP.out, if_pos hne])
        have v1 := h1.next hb6
        have v2 := h2.below hb6
        have v3 := h3.below hb6
        have v4 := h4.below hb6
        have hl6 := hl'.below hb6
        have hd6 := hd.below hb6
        have b9 : w6.cell? (la2.add x) = some (.int .i64 (px : Int)) := (hb6.cell hlx).trans a9
        clear HP c4 c7 a9 hne lx4 lx7 h1 h2 h3 h4 hl' hd
        obtain ⟨i5, j5⟩ := v1.at5 (x := px) hpm
        have hcb : 0 ≤ ((Dg.evs R k ++ Dg.evp R k pre).count px : Int) ∧ ((Dg.evs R k ++ Dg.evp R k pre).count px : Int) ≤ 300000 := by
          have := List.count_le_length (a := px) (l := Dg.evs R k ++ Dg.evp R k pre)
          have := HB1.out
          omega
        have HR1 : Hid (∀ W, CS w1 W m n A1 c1 (some la2) c2 g5 b5 (fun p => ((Dg.evs R k ++ Dg.evp R k pre).count p : Int)) → CS w1 (W.setCell ⟨g5, px, none⟩ (.int .i64 (((Dg.evs R k ++ Dg.evp R k pre).count px : Int) + 1))) m n A1 c1 (some la2) c2 g5 b5 (fun p => ((Dg.evs R k ++ Dg.evp R k (pre ++ [x])).count p : Int))) := Lib.hid (fun W hW => by
          have r1 := hW.set5 HS5.out (x := px) hpm (((Dg.evs R k ++ Dg.evp R k pre).count px : Int) + 1)
          have hE : (fun j => if j = px then ((Dg.evs R k ++ Dg.evp R k pre).count px : Int) + 1 else ((Dg.evs R k ++ Dg.evp R k pre).count j : Int)) = fun p => ((Dg.evs R k ++ Dg.evp R k (pre ++ [x])).count p : Int) := by
            funext j
            rw [HP2.out, ← List.append_assoc, List.count_append (l₁ := Dg.evs R k ++ Dg.evp R k pre)]
            by_cases e : j = px
            · subst e; simp
            · rw [if_neg e, List.count_cons_of_ne (Ne.symm e)]; simp
          rw [hE] at r1
          exact r1)
        clear HB1
        generalize ((Dg.evs R k ++ Dg.evp R k pre).count px : Int) = cv at *
        obtain ⟨hc0, hc1⟩ := hcb
        have e4 := v1.x4.c1
        have e5 := v1.x5.c1
        have lx4 := v1.x4.lt
        have lx5 := v1.x5.lt
        have lg5 := (own_lt v1.o5).2
        have hlx6 : (la2.add x).block < w6.heap.size := Nat.lt_of_lt_of_le hlx hb6.size
        have z0 : (0 : Int) ≤ (px : Int) := by omega
        have z1 : (px : Int) < (m : Int) := by omega
        gi_wp2_with fail
        refine wpIn_region_kept_tail 9 w6.heap.size w6 (by kernel_rfl) (by kernel_rfl) (by kernel_rfl) (Below.refl _ _) ?_
        simp only [List.take_succ_cons, List.take_zero, List.drop_succ_cons, List.drop_zero]
        repeat (go_big_quiet_step (fail))
        refine wpQuiet_nil ?_
        rintro w7 ⟨⟨_, hb7⟩, rfl⟩
        have u1 := v1.next hb7
        have r1 := HR1.out w7 u1
        clear e4 e5 i5 j5 b9
        have i5 := hb7.cell (p := ⟨g5, px, none⟩) lg5
        have i5' := (v1.at5 (x := px) hpm)
        have hf := hb7.frozen (p := ⟨g5, px, none⟩) lg5
        obtain ⟨i6, j6⟩ := u1.at5 (x := px) hpm
        have hl7 := hl6.below hb7
        have hd7 := hd6.below hb7
        have s2 := v2.below hb7
        have s3 := v3.below hb7
        have s4 := v4.below hb7
        have n7 : W0.heap.size ≠ g5 := by have := HS5.out; omega
        have n8 : X7.heap.size ≠ g5 := by have := HS5.out; omega
        clear v1 v2 v3 v4 hl6 hd6 i5 i5' hf
        go_wp2_with fail
        change _ ∧ _ ∧ _
        exact ⟨hl7.set_other (hl7.ne_own0 rfl u1.o5) _, hd7.set_other (hd7.ne_own0 rfl u1.o5) _, r1, s2.set_other (p := ⟨g5, px, none⟩) n7 _, s3.set_other (p := ⟨g5, px, none⟩) n8 _, s4.set_own u1.o5 _⟩
    case done =>
      rintro W ⟨h1, h2, h3, h4⟩ hD
      have HE2 : Hid (Dg.evs R k ++ Dg.evp R k (Bs.els (Dg.row R k) 0) = Dg.evs R (k + 1)) := Lib.hid (Dg.evs_succ R k).symm
      rw [HE2.out] at h1
      have hDl := hD.lt
      have hMf := h4.cons (C := w4.heap.size) (D := w4.heap.size) p4.bel.size (Nat.le_refl _) hD
      go_wp2_with fail
      exact ⟨_, rfl, rfl, n - (k + 1), by omega, k + 1, rfl, rfl, hlt, h1, by omega, hMf.more (C' := W.heap.size) (by omega)⟩
  · obtain rfl : k = n := by omega
    have q0 : decide ((k : Int) < (k : Int)) = false := decide_eq_false (by omega)
    have HF : Hid ((fun p => ((Dg.evs R k).count p : Int)) = Dg.inc R []) := Lib.hid (by funext p; rw [Dg.inc_nil, HN.out])
    rw [HF.out] at cs
    clear HF
    obtain ⟨X9, HX9, x9, hbX9, hsX9⟩ := boxes1 W0 #[.slice none 0 0] 39
    have HSX9 := Lib.hid hsX9
    have p9 := cs.next hbX9
    have c3 := p9.x3.c1
    have hM9 := hM.below hbX9
    have hX9 := HX9.out
    clear hsX9
    go_wp2_with fail
    clear hX9 c3
    refine (bsBelow_ok m X9 (by omega)).mono ?_
    rintro e w5 ⟨rfl, hb5⟩
    rw [← Dg.lft_nil m]
    have p5 := p9.next hb5
    have y9 := x9.below hb5
    have hM5 := hM9.below hb5
    have l9 := x9.lt
    obtain ⟨XA, HXA, xA, hbXA, hsXA⟩ := boxes1 w5 (bsc (Dg.lft m [])) 169
    have HSXA := Lib.hid hsXA
    have pA := p5.next hbXA
    have yA := y9.below hbXA
    have hMA := hM5.below hbXA
    have c3 := pA.x3.c1
    have hXA := HXA.out
    clear hsXA
    go_wp2_with fail
    have HBB : Hid (W0.heap.size < w5.heap.size) := Lib.hid (Nat.lt_of_lt_of_le l9 hb5.size)
    have ct0 : CT w1 XA m k A1 c1 A2 c2 g5 b5 W0.heap.size w5.heap.size (Dg.inc R []) (.slice none 0 0) [] [] := ⟨pA, LO.none_ _ _, yA, xA⟩
    have hszA : w5.heap.size < XA.heap.size := xA.lt
    have hMA' := hMA.more (C' := XA.heap.size) (by have := hbX9.size; have := hb5.size; have := hbXA.size; omega)
    have HBB9 : Hid (b5 < W0.heap.size) := Lib.hid hsz
    clear hXA HXA HSXA c3 pA yA xA hMA p5 p9 y9 x9 hM5 hM9 hM cs hb5 hbXA hbX9 HSX9 HX9 l9 B0
    generalize W0.heap.size = b9 at *
    generalize w5.heap.size = b10 at *
    refine wp_loop_mrg [12, 13, 14, 63, 64, 65, 66, 67, 68, 69, 70, 71, 72, 73, 74, 75, 76, 77, 78, 79, 80, 81, 82, 83, 84, 85, 86, 87, 88, 89, 90, 91, 92, 93, 94, 95, 96, 97, 98, 99, 100, 101, 102, 103, 104, 105, 106, 107, 108, 109, 110, 111, 112, 113, 114, 115, 116] (fun mm f ds W0 => ∃ (i : Nat) (vO : Value) (ls : List SLc) (C : List Nat), f 63 = .int .i64 i ∧ mm = m - i ∧ i ≤ m ∧ CT w1 W0 m k A1 c1 A2 c2 g5 b5 b9 b10 (Dg.inc R C) vO ls C ∧ b10 < W0.heap.size ∧ Hid (C.length = i ∧ C.Nodup ∧ (∀ p ∈ C, p < m) ∧ ls.map (·.xs) = C.map (fun p => bsl (Bs.els (Dg.pt R p) 0))) ∧ Marks w1.heap.size W0.heap.size ds W0) m ⟨0, .slice none 0 0, [], [], rfl, rfl, Nat.zero_le _, ct0, hszA, Lib.hid ⟨rfl, List.nodup_nil, fun p h => absurd h (by simp), rfl⟩, hMA'⟩ ?_
    clear ct0 hszA hMA' 
    intro c2' T2' hc2 hT2
    rintro mm f ds2 W0' ⟨i, vO, ls, C, hf63, rfl, hi', ct, hsz2, HC, hM⟩
    replace hc2 := hc2.out
    subst hc2
    replace hT2 := hT2.out
    subst hT2
    generalize hF : mrgF _ 0 _ _ = F
    simp only [mrg_hit, mrg_miss, mrg_end, Nat.reduceBEq, Nat.reduceAdd] at hF
    rw [hf63] at hF
    subst hF
    have B0 := after_ B1 ct.cs.bel
    by_cases hlt : i < m
    · have x0 : (0 : Int) ≤ (i : Int) := by omega
      have x1i : (i : Int) < (m : Int) := by omega
      have q0 : decide ((i : Int) < (m : Int)) = true := decide_eq_true x1i
      obtain ⟨d0, d1, d2, d3, d4, d5, d6, d7⟩ := ct.x10.w
      go_wp2_with fail
      clear d0 d1 d2 d3 d4 d5 d6 d7
      refine (bsAll_ok (Dg.lft m C) W0').mono ?_
      rintro e w4 ⟨rfl, hb4, hs4, xb⟩
      have ct4 := ct.next hb4
      have hM4 := hM.below hb4
      clear ct hM
      have hlsl : ls.length ≤ 512 := by
        have h0 := congrArg List.length HC.out.2.2.2
        rw [List.length_map, List.length_map, HC.out.1] at h0
        omega
      have HC' : Hid (∃ p, p < m ∧ p ∉ C ∧ Dg.inc R C p ≤ 0) := Lib.hid (by
        have := Dg.inc_some hR HC.out.2.1 (fun p hp => by rw [HM.out]; exact HC.out.2.2.1 p hp) (by rw [HM.out, HC.out.1]; exact hlt)
        rw [HM.out] at this
        exact this)
      go_wp2_with fail
      refine wp_range (gf := 123) (lb := #[.pointer (some ⟨W0'.heap.size, 0, none⟩)]) rfl (enters_of Tryz.func123 (by kernel_rfl) rfl) (bsAll_seq W0'.heap.size (Dg.lft m C)) (fun _ => rfl)
        (fun pre W => CT w1 W m k A1 c1 A2 c2 g5 b5 b9 b10 (Dg.inc R C) vO ls C ∧ (∀ p ∈ pre, 0 < Dg.inc R C p) ∧ Box W W0'.heap.size (bsc (Dg.lft m C)) 169 ∧ Marks w1.heap.size w4.heap.size ds2 W)
        (fun cd pre W => cd = .exit 6 ∧ ∃ p vO' ls', p < m ∧ p ∉ C ∧ ls'.map (·.xs) = (C ++ [p]).map (fun p => bsl (Bs.els (Dg.pt R p) 0)) ∧ CT w1 W m k A1 c1 A2 c2 g5 b5 b9 b10 (Dg.inc R (C ++ [p])) vO' ls' (C ++ [p]) ∧ Marks w1.heap.size w4.heap.size ds2 W)
        ?hI ?hIx ?hK ⟨ct4, fun p h => absurd h (by simp), xb, hM4.more hb4.size⟩ ?round ?done ?stop
      case hI => exact fun pre W W' row ⟨h1, h2, h3, h4⟩ hg hr => ⟨h1.own ct4.cs.bel.size hg hr, h2, h3.own hg hr, h4.own (Nat.le_refl _) hg hr⟩
      case hIx => exact fun cd pre W W' row ⟨h0, p, vO', ls', h1, h2, h3, h4, h5⟩ hg hr => ⟨h0, p, vO', ls', h1, h2, h3, h4.own ct4.cs.bel.size hg hr, h5.own (Nat.le_refl _) hg hr⟩
      case hK => exact fun pre W ⟨h1, h2, h3, h4⟩ => ⟨h3, ht.kept (after_ B1 h1.cs.bel)⟩
      case done =>
        rintro W ⟨h1, h2, h3, h4⟩ hD
        exfalso
        obtain ⟨p, hp1, hp2, hp3⟩ := HC'.out
        have := h2 p ((Dg.lft_mem (by omega)).2 ⟨hp1, hp2⟩)
        omega
      case stop =>
        rintro cd pre W ⟨rfl, p, vO', ls', hp1, hp2, hls, h1, h4⟩ hD
        have hDl := hD.lt
        have hMf := h4.cons (C := w4.heap.size) (D := w4.heap.size) ct4.cs.bel.size (Nat.le_refl _) hD
        have HC2 : Hid ((C ++ [p]).length = i + 1 ∧ (C ++ [p]).Nodup ∧ (∀ q ∈ C ++ [p], q < m) ∧ ls'.map (·.xs) = (C ++ [p]).map (fun p => bsl (Bs.els (Dg.pt R p) 0))) := Lib.hid ⟨by rw [List.length_append, HC.out.1]; rfl, by
          rw [List.nodup_append]
          refine ⟨HC.out.2.1, by simp, fun a ha b hb e => ?_⟩
          subst e
          rw [List.mem_singleton.1 hb] at ha
          exact hp2 ha, fun q hq => by
          rcases List.mem_append.1 hq with hq | hq
          · exact HC.out.2.2.1 q hq
          · rw [List.mem_singleton.1 hq]; exact hp1, hls⟩
        go_wp2_with fail
        exact ⟨_, rfl, rfl, m - (i + 1), by omega, i + 1, vO', ls', C ++ [p], rfl, rfl, hlt, h1, by omega, HC2, hMf.more (C' := W.heap.size) (by omega)⟩
      case round =>
        intro r' pre p post W hL hl' hd hi
        have hpC : p < m ∧ p ∉ C := (Dg.lft_mem (by omega)).1 (by rw [hL]; simp)
        clear hL
        obtain ⟨h1, h2, h3, h4⟩ := hi
        obtain ⟨XB, HXB, xB, hbXB, hsXB⟩ := boxes1 W #[.int .i64 (p : Int)] 3
        have HNB0 : Hid (∀ b, vO.ownBlock = some b → b ≠ W.heap.size) := Lib.hid (fun b hb e => by have := (h1.lo.outer.lt b hb).2; omega)
        have hXB := HXB.out
        clear hsXB
        gi_wp2
        refine ⟨hl'.below hbXB, hd.below hbXB, ⟨h1.next hbXB, h2, h3.below hbXB, h4.below hbXB⟩, fun W9 => Box W9 W.heap.size #[.int .i64 (p : Int)] 3, fun s Wa Wb row hs9 hg9 hr9 => hs9.own hg9 hr9, xB, ?_⟩
        have hWsz : W0'.heap.size < W.heap.size := h3.lt
        clear hl' hd h1 h3 h4 hXB
        rintro r'' W2 hl' hd ⟨h1, h2, h3, h4⟩ h5
        generalize W.heap.size = b12 at *
        have hpm : p < m := hpC.1
        obtain ⟨i5, j5⟩ := h1.cs.at5 (x := p) hpm
        have e5 := h1.cs.x5.c1
        have e12 := h5.c1
        have y0 : (0 : Int) ≤ (p : Int) := by omega
        have y1 : (p : Int) < (m : Int) := by omega
        have HNB : Hid (∀ b, vO.ownBlock = some b → b ≠ b12) := HNB0
        have HIN : Hid (∀ q ∈ pre ++ [p], 0 < Dg.inc R C p → 0 < Dg.inc R C q) := Lib.hid (fun q hq h0 => by
          rcases List.mem_append.1 hq with hq | hq
          · exact h2 q hq
          · rw [List.mem_singleton.1 hq]; exact h0)
        obtain ⟨cv, hcv⟩ : ∃ cv, Dg.inc R C p = cv := ⟨_, rfl⟩
        rw [hcv] at i5 HIN
        have HCV := Lib.hid hcv
        clear hcv
        by_cases hpos : 0 < cv
        · have q1 : decide (0 < cv) = true := decide_eq_true hpos
          have q2 : decide (cv > 0) = true := decide_eq_true hpos
          gi_wp2_with fail
          exact ⟨hl', hd, h1, fun q hq => HIN.out q hq hpos, h3, h4⟩
        · have q1 : decide (0 < cv) = false := decide_eq_false hpos
          have q2 : decide (cv > 0) = false := decide_eq_false hpos
          obtain ⟨d0, d1, d2, d3, d4, d5, d6, d7⟩ := h1.x10.w
          gi_wp2_with fail
          clear d0 d1 d2 d3 d4 d5 d6 d7 i5 j5 e5
          refine ⟨trivial, ?_⟩
          refine (callsIn_wide.2 (bsRemove_ok (Dg.lft m C) p W2 (by omega))).mono ?_
          rintro e w6 ⟨rfl, hb6⟩
          rw [← Dg.lft_snoc m C p]
          have t1 := h1.next hb6
          have t5 := h5.below hb6
          have t4 := h4.below hb6
          have tl := hl'.below hb6
          have td := hd.below hb6
          clear h1 h3 h4 h5 hl' hd e12
          obtain ⟨Y, HY, z, hBY, hsY, hoY⟩ := store8 w6 b10 (Dg.lft m (C ++ [p])) _ _ t1.x10 rfl
          have hgY := grown8 HY.out
          have ct6 := t1.set10 HS5.out ⟨HBB9.out, HBB.out⟩ hgY z
          have n12 : b12 ≠ b10 := by omega
          have v5 := hoY _ _ _ n12 t5
          have v4 := t4.set8 t1.x10 HY.out
          have vl := tl.set8 rfl t1.x10 HY.out
          have vd := td.set8 rfl t1.x10 HY.out
          obtain ⟨g0, g1, g2, g3, g4, g5', g6, g7⟩ := t1.x10.f8
          obtain ⟨d0, d1, d2, d3, d4, d5, d6, d7⟩ := t1.x10.w
          have hY := HY.out
          gi_wp2_with fail
          clear hY g0 g1 g2 g3 g4 g5' g6 g7 d0 d1 d2 d3 d4 d5 d6 d7 t1 t4 t5 tl td HY hgY hBY hoY z
          have hSP : Sl 8 bscell Y Y.heap.size A1 (Dg.parts R) := (hS1.below ct6.cs.bel).more ct6.cs.bel.size
          obtain ⟨lap, hlap, hlbp, a0, a1, a2, a3, a4, a5, a6, a7⟩ := hSP.bs8 (k := p) (by rw [Dg.parts_len, HM.out]; exact hpm)
          rw [Dg.parts_at] at a0 a1 a2 a3 a4 a5 a6 a7
          have HLP := Lib.hid hlap
          have HBS : Hid (B1 = B1) := Lib.hid rfl
          subst hlap
          have D9 := ct6.x9.c1
          have D3 := ct6.cs.x3.c1
          have D12 := v5.c1
          refine wpIn_of_any (by kernel_rfl) (by kernel_rfl) ?_
          refine wpAny_of_L (S := fun ls w' => (ls.getD 7 true = false → w'.cell? ⟨b9, 0, none⟩ = some vO) ∧ (ls.getD 3 true = false → w'.cell? ⟨w1.heap.size, 0, none⟩ = some (.slice (some lap) m c1) ∧ w'.cell? ⟨b12, 0, none⟩ = some (.int .i64 (p : Int)))) _ _ _ _ ?_
          have ct6d : CT w1 Y.drew m k (some lap) c1 A2 c2 g5 b5 b9 b10 (Dg.inc R C) vO ls (C ++ [p]) := ct6.next (Below.refl _ _).drew
          have v5d : Box Y.drew b12 #[.int .i64 (p : Int)] 3 := v5
          have v4d : Marks w1.heap.size w4.heap.size ds2 Y.drew := v4.below (Below.refl _ _).drew
          have vld : Hold Y.drew _ _ := vl.below (Below.refl _ _).drew
          have vdd : Hold Y.drew _ _ := vd.below (Below.refl _ _).drew
          have hds : Y.drew.heap.size = Y.heap.size := rfl
          refine wpAnyL_take (i := 0) (q := 7) (v := vO) (fun w' => w'.cell? ⟨b9, 0, none⟩ = some vO) rfl (by kernel_rfl) (by kernel_rfl) (by kernel_rfl) (fun c a w h => h) rfl (by kernel_rfl) (by decide) (fun ls w => by simp) (fun ls w h1 h2 => h2.1 h1) rfl rfl (fun w h => by go_simp) ⟨fun _ => D9, fun _ => ⟨D3, D12⟩⟩ ?_
          refine wpAnyL_take (i := 1) (q := 3) (v := .slice (some lap) m c1) (fun w' => w'.cell? ⟨w1.heap.size, 0, none⟩ = some (.slice (some lap) m c1)) rfl (by kernel_rfl) (by kernel_rfl) (by kernel_rfl) (fun c a w h => h) rfl (by kernel_rfl) (by decide) (fun ls w => by simp) (fun ls w h1 h2 => (h2.2 h1).1) rfl rfl (fun w h => by go_simp) ⟨fun _ => D9, fun _ => ⟨D3, D12⟩⟩ ?_
          refine wpAnyL_take (i := 2) (q := 3) (v := .int .i64 (p : Int)) (fun w' => w'.cell? ⟨b12, 0, none⟩ = some (.int .i64 (p : Int))) rfl (by kernel_rfl) (by kernel_rfl) (by kernel_rfl) (fun c a w h => h) rfl (by kernel_rfl) (by decide) (fun ls w => by simp) (fun ls w h1 h2 => (h2.2 h1).2) rfl rfl (fun w h => by go_simp) ⟨fun _ => D9, fun _ => ⟨D3, D12⟩⟩ ?_
          try simp only [Act.put]
          refine wpAnyL_one (i := 3) (by kernel_rfl) ?_
          refine wpOp_K (fun K hK => ?_)
          refine wpOp_one rfl rfl ?_
          go_simp
          refine hK _ _ ⟨⟨fun _ => D9, fun h => absurd h (by simp)⟩, ?_⟩
          clear hK K
          try simp only [Act.put]
          refine wpAnyL_one (i := 4) (by kernel_rfl) ?_
          refine wpOp_K (fun K hK => ?_)
          refine wpOp_one rfl rfl ?_
          go_simp
          refine hK _ _ ⟨⟨fun _ => D9, fun h => absurd h (by simp)⟩, ?_⟩
          clear hK K
          try simp only [Act.put]
          refine wpAnyL_one (i := 5) (by kernel_rfl) ?_
          refine wpOp_K (fun K hK => ?_)
          refine wpOp_one rfl rfl ?_
          go_simp
          refine (bsList_own (Dg.pt R p) Y.drew (ht.kept (after_ B1 ct6d.cs.bel))).mono ?_
          rintro e w7 ⟨A7, c7, rfl, ho7, hb7⟩
          have ct7 := ct6d.next hb7
          have u5 := v5d.below hb7
          have u4 := v4d.below hb7
          have ul := vld.below hb7
          have ud := vdd.below hb7
          refine hK _ _ ⟨⟨fun _ => ct7.x9.c1, fun h => absurd h (by simp)⟩, ?_⟩
          clear hK K
          try simp only [Act.put]
          refine wpAnyL_one (i := 6) (by kernel_rfl) ?_
          refine wpOp_K (fun K hK => ?_)
          refine wpOp_one rfl rfl ?_
          go_simp
          refine hK _ _ ⟨⟨fun _ => ?_, fun h => absurd h (by simp)⟩, ?_⟩
          · exact (World.cell?_alloc_lt w7 _ ⟨b9, 0, none⟩ ct7.x9.lt).trans ct7.x9.c1
          clear hK K
          try simp only [Act.put]
          refine wpAnyL_one (i := 7) (by kernel_rfl) ?_
          refine wpOp_K (fun K hK => ?_)
          refine wpOp_one rfl rfl ?_
          refine push_wp (w := w7) (w0 := w1) (cell := slcell) (y := (⟨A7, c7, bsl (Bs.els (Dg.pt R p) 0)⟩ : SLc)) _ _ _ rfl (b10 + 1) w1.heap.size 29 il _ 24 Tryz.underlying39 Hil.out Hzl0.out Hzl1.out Hzl2.out rfl (by decide) vO ls.length ls (by simp [Act.eval]) ct7.lo.outer _ _ rfl 1 (by simp [Act.eval]) (sl_one _) (by unfold maxLen; omega) (by omega) (by have := ct7.x10.lt; omega) (by have := HBB.out; have := HBB9.out; have := HS5.out; omega) ct7.cs.bel ?_
          intro v' w8 hown8 hb8 hg8
          obtain ⟨g8, cap8, rfl⟩ := ownsRow_succ hown8
          have hi7 : w7.ownsRow (b10 + 1) 3 1 (.slice A7 (bsl (Bs.els (Dg.pt R p) 0)).length c7) (bsl (Bs.els (Dg.pt R p) 0)).length (flat 1 icell (bsl (Bs.els (Dg.pt R p) 0))) := own_base ho7 (by have := ct6d.x10.lt; omega)
          have hP := ct7.push HS5.out ⟨HBB9.out, HBB.out⟩ (s := ⟨A7, c7, bsl (Bs.els (Dg.pt R p) 0)⟩) hi7 hown8 hg8
          have nv : ∀ b, b ≤ b10 → some b ≠ vO.ownBlock := fun b hb e => by have := (ct7.lo.outer.lt b e.symm).1; omega
          have x98 := ct7.x9.grown hg8 (nv b9 (by have := HBB.out; omega))
          have f98 := x98.frozen 0
          have c98 := x98.c1
          have nv12 : some b12 ≠ vO.ownBlock := fun e => HNB.out _ e.symm rfl
          have u5' := (u5.grown hg8 nv12).set_other (p := ⟨b9, 0, none⟩) (by have := HBB.out; dsimp only; omega) (.slice (some ⟨g8, 0, none⟩) (ls.length + 1) cap8)
          have u4' := (u4.grown ct7.lo.outer hg8).set_other (i := 0) x98 (.slice (some ⟨g8, 0, none⟩) (ls.length + 1) cap8)
          have ul' := (ul.grown hg8 (Hold.ne_own ul rfl ct7.lo.outer)).set_other (p := ⟨b9, 0, none⟩) ((ul.grown hg8 (Hold.ne_own ul rfl ct7.lo.outer)).ne_box rfl x98) (.slice (some ⟨g8, 0, none⟩) (ls.length + 1) cap8)
          have ud' := (ud.grown hg8 (Hold.ne_own ud rfl ct7.lo.outer)).set_other (p := ⟨b9, 0, none⟩) ((ud.grown hg8 (Hold.ne_own ud rfl ct7.lo.outer)).ne_box rfl x98) (.slice (some ⟨g8, 0, none⟩) (ls.length + 1) cap8)
          refine hK _ _ ⟨⟨fun h => absurd h (by simp), fun h => absurd h (by simp)⟩, ?_⟩
          clear hK K
          try simp only [Act.put]
          refine wpAnyL_one (i := 8) (by kernel_rfl) ?_
          refine wpOp_K (fun K hK => ?_)
          refine wpOp_one rfl rfl ?_
          go_simp
          refine hK _ _ ⟨⟨fun h => absurd h (by simp), fun h => absurd h (by simp)⟩, ?_⟩
          clear hK K
          refine wpAnyL_done (by kernel_rfl) ?_ _
          clear f98 c98 x98 u5 u4 ul ud ct7 D9 D3 D12 a0 a1 a2 a3 a4 a5 a6 a7 hown8 hb8 hg8
          have hSW : ∀ W9, Below w1.heap.size w1 W9 → Sl 8 bscell W9 W9.heap.size (some lap) (Dg.parts R) := fun W9 hb9 => (hS1.below hb9).more hb9.size
          generalize (w8.setCell ⟨b9, 0, none⟩ (.slice (some ⟨g8, 0, none⟩) (ls.length + 1) cap8)) = w9 at *
          refine onlyK_of ?_
          have c12 := u5'.c1
          have e3 := hP.cs.x3.c1
          obtain ⟨lap', hlap, hlbp, a0, a1, a2, a3, a4, a5, a6, a7⟩ := (hSW w9 hP.cs.bel).bs8 (k := p) (by rw [Dg.parts_len, HM.out]; exact hpm)
          obtain rfl := Option.some.inj hlap
          rw [Dg.parts_at] at a0 a1 a2 a3 a4 a5 a6 a7
          have hdl9 := ud'.lt
          gi_wp2_with fail
          clear a0 a1 a2 a3 a4 a5 a6 a7 c12 e3
          refine ⟨trivial, ?_⟩
          refine (callsIn_wide.2 (bsAll_ok (Dg.pt R p) w9)).mono ?_
          rintro e wA ⟨rfl, hbA, hsA, xA⟩
          have lgA : g5 < w9.heap.size := (own_lt hP.cs.o5).2
          have ctA := hP.next hbA
          have u5 := u5'.below hbA
          have u4 := u4'.below hbA
          have ul := ul'.below hbA
          have ud := ud'.below hbA
          clear hP u5' u4' ul' ud'
          gi_wp2_with fail
          refine wp_range_in ul (gf := 123) (lb := #[.pointer (some ⟨w9.heap.size, 0, none⟩)]) rfl (enters_of Tryz.func123 (by kernel_rfl) rfl) (bsAll_seq w9.heap.size (Dg.pt R p)) (fun _ => rfl)
            (fun pre2 W => CT w1 W m k (some lap) c1 A2 c2 g5 b5 b9 b10 (Dg.incd R C (Dg.evr R p pre2)) (.slice (some ⟨g8, 0, none⟩) (ls.length + 1) cap8) (ls ++ [⟨A7, c7, bsl (Bs.els (Dg.pt R p) 0)⟩]) (C ++ [p]) ∧ Box W b12 #[.int .i64 (p : Int)] 3 ∧ Box W w9.heap.size (bsc (Dg.pt R p)) 169 ∧ Marks w1.heap.size w4.heap.size ds2 W ∧ Hold W (w4.heap.size + 1) (.loop r'') ∧ Hold W w4.heap.size (.deferred (some []))) (fun _ _ _ => False)
            ?hI2 (fun _ _ _ _ _ h => h.elim) ?hK2 ⟨by rw [show Dg.incd R C (Dg.evr R p []) = Dg.inc R C from Dg.incd_nil R C]; exact ctA, u5, xA, u4, ul, ud⟩ ?round2 ?done2 (fun _ _ _ h => h.elim)
          case hI2 => exact fun pre W W' row ⟨h1, h2, h3, h4, h5, h6⟩ hg hr => ⟨h1.own ctA.cs.bel.size hg hr, h2.own hg hr, h3.own hg hr, h4.own (by have := hbA.size; omega) hg hr, h5.own ul.lt hg hr, h6.own ud.lt hg hr⟩
          case hK2 => exact fun pre W ⟨h1, h2, h3, h4, h5, h6⟩ => ⟨h3, ht.kept (after_ B1 h1.cs.bel)⟩
          case done2 =>
            rintro W ⟨h1, h2, h3, h4, h5, h6⟩
            rw [show Dg.incd R C (Dg.evr R p (Bs.els (Dg.pt R p) 0)) = Dg.inc R (C ++ [p]) from Dg.incd_end R C p] at h1
            have HLS : Hid ((ls ++ [(⟨A7, c7, bsl (Bs.els (Dg.pt R p) 0)⟩ : SLc)]).map (·.xs) = (C ++ [p]).map (fun p => bsl (Bs.els (Dg.pt R p) 0))) := Lib.hid (by rw [List.map_append, List.map_append, HC.out.2.2.2]; rfl)
            gi_wp2_with fail
            exact ⟨h5, h6, rfl, p, _, _, hpm, hpC.2, HLS.out, h1, h4⟩
          case round2 =>
            intro r2 pre2 v post2 W hL2 hl2 hi2
            have hvb : (Dg.pt R p).testBit v = true := (Bs.mem_els (Dg.pt_fit hR p)).1 (by rw [hL2]; simp)
            have hvR : v < R.length := by
              rw [Dg.pt_bit hR (by rw [HM.out]; exact hpm), Bool.and_eq_true, decide_eq_true_eq] at hvb
              exact hvb.1
            have hpl2 : pre2.length < 512 := by have := Bs.els_len (Dg.pt R p) 0; rw [hL2] at this; simp at this; omega
            clear hL2 hvb
            gi_wp2
            refine ⟨hl2, hi2, fun _ => True, fun _ _ _ _ _ _ _ => trivial, trivial, ?_⟩
            clear hl2 hi2
            rintro r3 W3 hl2 ⟨h1, h2, h3, h4, h5, h6⟩ -
            have lgW : g5 < W3.heap.size := (own_lt h1.cs.o5).2
            have hDG := h.next (after_ B1 h1.cs.bel)
            obtain ⟨la, hla, hlb, a0, a1, a2, a3, a4, a5, a6, a7⟩ := hDG.rows.bs8 hvR
            rw [← row_at hvR] at a0 a1 a2 a3 a4 a5 a6 a7
            obtain ⟨e0, e1, e2⟩ := hDG.box.c3
            have lg := hDG.box.lt
            have z1 := (x11.below h1.cs.bel).c1
            have lz1 := (x11.below h1.cs.bel).lt
            obtain ⟨lap', hlap, hlbp', b0, b1, b2, b3, b4, b5', b6, b7⟩ := (hSW W3 h1.cs.bel).bs8 (k := p) (by rw [Dg.parts_len, HM.out]; exact hpm)
            obtain rfl := Option.some.inj hlap
            rw [Dg.parts_at] at b0 b1 b2 b3 b4 b5' b6 b7
            have c12 := h2.c1
            have l12 := h2.lt
            have e3 := h1.cs.x3.c1
            have l3 := h1.cs.x3.lt
            have x0 : (0 : Int) ≤ (v : Int) := by omega
            have x1 : (v : Int) < (R.length : Int) := by omega
            have y0 : (0 : Int) ≤ (p : Int) := by omega
            have y1 : (p : Int) < (m : Int) := by omega
            subst hla
            gi_wp2_with fail
            refine wpIn_region_kept_tail 12 W3.heap.size W3 (by kernel_rfl) (by kernel_rfl) (by kernel_rfl) (Below.refl _ _) ?_
            simp only [List.take_succ_cons, List.take_zero, List.drop_succ_cons, List.drop_zero]
            repeat (go_big_quiet_step ((go_at_call 122; exact Kept.calls (Nat.le_refl _) (bsMinus_ok (Dg.row R v) (Dg.pt R p) _))))
            refine wpQuiet_nil ?_
            rintro w6 ⟨⟨_, hb6⟩, rfl⟩
            clear a0 a1 a2 a3 a4 a5 a6 a7 b0 b1 b2 b3 b4 b5' b6 b7 e0 e1 e2 z1 c12 e3
            go_wp2_with fail
            refine (bsAll_ok (Bs.dif (Dg.row R v) (Dg.pt R p)) w6).mono ?_
            rintro e wB ⟨rfl, hbB, hsB, xB⟩
            have hb6B := after_ hb6 hbB
            have k1 := h1.next hb6B
            have k2 := h2.below hb6B
            have k3 := h3.below hb6B
            have k4 := h4.below hb6B
            have k5 := h5.below hb6B
            have k6 := h6.below hb6B
            have kl := hl2.below hb6B
            clear h1 h2 h3 h4 h5 h6 hl2
            go_wp2_with fail
            refine onlyK_of ?_
            gi_wp2_with fail
            refine wp_range_in kl (gf := 123) (lb := #[.pointer (some ⟨w6.heap.size, 0, none⟩)]) rfl (enters_of Tryz.func123 (by kernel_rfl) rfl) (bsAll_seq w6.heap.size (Bs.dif (Dg.row R v) (Dg.pt R p))) (fun _ => rfl)
              (fun pre3 W => CT w1 W m k (some lap) c1 A2 c2 g5 b5 b9 b10 (Dg.incd R C (Dg.evr R p pre2 ++ pre3.map (Dg.pidx R))) (.slice (some ⟨g8, 0, none⟩) (ls.length + 1) cap8) (ls ++ [⟨A7, c7, bsl (Bs.els (Dg.pt R p) 0)⟩]) (C ++ [p]) ∧ Box W b12 #[.int .i64 (p : Int)] 3 ∧ Box W w9.heap.size (bsc (Dg.pt R p)) 169 ∧ Marks w1.heap.size w4.heap.size ds2 W ∧ Hold W (w4.heap.size + 1) (.loop r'') ∧ Hold W w4.heap.size (.deferred (some [])) ∧ Hold W wA.heap.size (.loop r3) ∧ Box W w6.heap.size (bsc (Bs.dif (Dg.row R v) (Dg.pt R p))) 169) (fun _ _ _ => False)
              ?hI3 (fun _ _ _ _ _ h => h.elim) ?hK3 ⟨by rw [List.map_nil, List.append_nil]; exact k1, k2, k3, k4, k5, k6, kl, xB⟩ ?round3 ?done3 (fun _ _ _ h => h.elim)
            case hI3 => exact fun pre W W' row ⟨h1, h2, h3, h4, h5, h6, h7, h8⟩ hg hr => ⟨h1.own k1.cs.bel.size hg hr, h2.own hg hr, h3.own hg hr, h4.own (by have := k6.lt; omega) hg hr, h5.own k5.lt hg hr, h6.own k6.lt hg hr, h7.own kl.lt hg hr, h8.own hg hr⟩
            case hK3 => exact fun pre W ⟨h1, h2, h3, h4, h5, h6, h7, h8⟩ => ⟨h8, ht.kept (after_ B1 h1.cs.bel)⟩
            case done3 =>
              rintro W ⟨h1, h2, h3, h4, h5, h6, h7, h8⟩
              have HEV : Hid (Dg.evr R p pre2 ++ (Bs.els (Bs.dif (Dg.row R v) (Dg.pt R p)) 0).map (Dg.pidx R) = Dg.evr R p (pre2 ++ [v])) := Lib.hid (Dg.evr_snoc R p pre2 v).symm
              rw [HEV.out] at h1
              gi_wp2_with fail
              exact ⟨h7, h1, h2, h3, h4, h5, h6⟩
            case round3 =>
              intro r4 pre3 x post3 W hL3 hl3 hi3
              have hxR : x < R.length := by
                have hxb : (Bs.dif (Dg.row R v) (Dg.pt R p)).testBit x = true := (Bs.mem_els (Bs.fit_dif _ (hR.row_fit v))).1 (by rw [hL3]; simp)
                rw [Bs.dif_bit, Bool.and_eq_true] at hxb
                exact hR.fit _ _ hxb.1
              have hpl3 : pre3.length < 512 := by have := Bs.els_len (Bs.dif (Dg.row R v) (Dg.pt R p)) 0; rw [hL3] at this; simp at this; omega
              clear hL3
              gi_wp2
              refine ⟨hl3, hi3, fun _ => True, fun _ _ _ _ _ _ _ => trivial, trivial, ?_⟩
              clear hl3 hi3
              rintro r5 W5 hl3 ⟨h1, h2, h3, h4, h5, h6, h7, h8⟩ -
              have hxn : x < k := by have := HN.out; omega
              have hpm3 : Dg.pidx R x < m := by have := Dg.pidx_lt hR hxR; rw [HM.out] at this; exact this
              obtain ⟨la2', hla2', hlb2', a9⟩ := ((hS2.below h1.cs.bel).more h1.cs.bel.size).int_at (k := x) (by rw [Dg.fl_len]; exact hxn)
              have HLA := Lib.hid hla2'
              rw [Dg.fl_at] at a9
              subst hla2'
              have hbd := Dg.incd_bd R C (Dg.evr R p pre2 ++ pre3.map (Dg.pidx R)) (Dg.pidx R x) (by have := HN.out; omega) (by have := HC.out.1; omega) (by rw [List.length_append, List.length_map]; have := Dg.evr_len R p pre2; omega)
              have HE : Hid (∀ q, Dg.incd R C (Dg.evr R p pre2 ++ (pre3 ++ [x]).map (Dg.pidx R)) q = if q = Dg.pidx R x then Dg.incd R C (Dg.evr R p pre2 ++ pre3.map (Dg.pidx R)) (Dg.pidx R x) - 1 else Dg.incd R C (Dg.evr R p pre2 ++ pre3.map (Dg.pidx R)) q) := Lib.hid (fun q => by rw [List.map_append, ← List.append_assoc]; exact Dg.incd_snoc R C _ _ q)
              generalize hpx : Dg.pidx R x = px at *
              have HPX := Lib.hid hpx
              clear hpx
              have HS5' : Hid (∀ W, CT w1 W m k (some lap) c1 (some la2') c2 g5 b5 b9 b10 (Dg.incd R C (Dg.evr R p pre2 ++ pre3.map (Dg.pidx R))) (.slice (some ⟨g8, 0, none⟩) (ls.length + 1) cap8) (ls ++ [⟨A7, c7, bsl (Bs.els (Dg.pt R p) 0)⟩]) (C ++ [p]) → CT w1 (W.setCell ⟨g5, px, none⟩ (.int .i64 (Dg.incd R C (Dg.evr R p pre2 ++ pre3.map (Dg.pidx R)) px - 1))) m k (some lap) c1 (some la2') c2 g5 b5 b9 b10 (Dg.incd R C (Dg.evr R p pre2 ++ (pre3 ++ [x]).map (Dg.pidx R))) (.slice (some ⟨g8, 0, none⟩) (ls.length + 1) cap8) (ls ++ [⟨A7, c7, bsl (Bs.els (Dg.pt R p) 0)⟩]) (C ++ [p])) := Lib.hid (fun W hW => by
                have r1 := hW.set5 HS5.out ⟨HBB9.out, HBB.out⟩ (x := px) hpm3 (Dg.incd R C (Dg.evr R p pre2 ++ pre3.map (Dg.pidx R)) px - 1)
                rw [show (fun j => if j = px then Dg.incd R C (Dg.evr R p pre2 ++ pre3.map (Dg.pidx R)) px - 1 else Dg.incd R C (Dg.evr R p pre2 ++ pre3.map (Dg.pidx R)) j) = Dg.incd R C (Dg.evr R p pre2 ++ (pre3 ++ [x]).map (Dg.pidx R)) from funext fun q => (HE.out q).symm] at r1
                exact r1)
              have HA5 : Hid (∀ W, CT w1 W m k (some lap) c1 (some la2') c2 g5 b5 b9 b10 (Dg.incd R C (Dg.evr R p pre2 ++ pre3.map (Dg.pidx R))) (.slice (some ⟨g8, 0, none⟩) (ls.length + 1) cap8) (ls ++ [⟨A7, c7, bsl (Bs.els (Dg.pt R p) 0)⟩]) (C ++ [p]) → W.cell? ⟨g5, px, none⟩ = some (.int .i64 (Dg.incd R C (Dg.evr R p pre2 ++ pre3.map (Dg.pidx R)) px)) ∧ W.frozen? ⟨g5, px, none⟩ = false) := Lib.hid (fun W hW => hW.cs.at5 hpm3)
              obtain ⟨i5, j5⟩ := HA5.out W5 h1
              obtain ⟨cv2, hcv2⟩ : ∃ cv2, Dg.incd R C (Dg.evr R p pre2 ++ pre3.map (Dg.pidx R)) px = cv2 := ⟨_, rfl⟩
              rw [hcv2] at HS5' HA5 i5 hbd
              clear HE hcv2
              obtain ⟨hb0, hb1'⟩ := hbd
              have e4 := h1.cs.x4.c1
              have e5 := h1.cs.x5.c1
              have l4 := h1.cs.x4.lt
              have l5 := h1.cs.x5.lt
              have lg5 := (own_lt h1.cs.o5).2
              have hlx : (la2'.add x).block < W5.heap.size := by rw [add_block]; exact hlb2'
              have x0 : (0 : Int) ≤ (x : Int) := by omega
              have x1 : (x : Int) < (k : Int) := by omega
              have y0 : (0 : Int) ≤ (px : Int) := by omega
              have y1 : (px : Int) < (m : Int) := by omega
              gi_wp2_with fail
              refine wpIn_region_kept_tail 9 W5.heap.size W5 (by kernel_rfl) (by kernel_rfl) (by kernel_rfl) (Below.refl _ _) ?_
              simp only [List.take_succ_cons, List.take_zero, List.drop_succ_cons, List.drop_zero]
              repeat (go_big_quiet_step (fail))
              refine wpQuiet_nil ?_
              rintro w7' ⟨⟨_, hb7'⟩, rfl⟩
              have u1 := h1.next hb7'
              have r1 := HS5'.out w7' u1
              clear e4 e5 i5 j5 a9
              obtain ⟨i6, j6⟩ := HA5.out w7' u1
              have ul3 := hl3.below hb7'
              have u2 := h2.below hb7'
              have u3 := h3.below hb7'
              have u4 := h4.below hb7'
              have u5 := h5.below hb7'
              have u6 := h6.below hb7'
              have u7 := h7.below hb7'
              have u8 := h8.below hb7'
              have n1 : b12 ≠ g5 := by have := HS5.out; have := HBB9.out; have := HBB.out; omega
              have n2 : w9.heap.size ≠ g5 := by have := lgA; omega
              have n3 : w6.heap.size ≠ g5 := by have := hb6.size; omega
              clear h1 h2 h3 h4 h5 h6 h7 h8 hl3
              go_wp2_with fail
              change _ ∧ _
              exact ⟨ul3.set_other (ul3.ne_own0 rfl u1.cs.o5) _, r1, u2.set_other (p := ⟨g5, px, none⟩) n1 _, u3.set_other (p := ⟨g5, px, none⟩) n2 _, u4.set_own u1.cs.o5 _, u5.set_other (u5.ne_own0 rfl u1.cs.o5) _, u6.set_other (u6.ne_own0 rfl u1.cs.o5) _, u7.set_other (u7.ne_own0 rfl u1.cs.o5) _, u8.set_other (p := ⟨g5, px, none⟩) n3 _⟩
    · obtain rfl : i = m := by omega
      have q0 : decide ((i : Int) < (i : Int)) = false := decide_eq_false (by omega)
      have c9 := ct.x9.c1
      go_wp2_with fail
      refine leaves_marks (B := w1.heap.size) _ _ hM (fun W' hs => ⟨_, results_tmp rfl _ _ _, ?_⟩)
      refine ⟨vO, ls, C, rfl, ?_, HC.out.2.2.2, ?_, B0.trans (hs.below.mono B1.size)⟩
      · have hbb : w.heap.size ≤ b10 + 1 := by have := HS5.out; have := HBB.out; have := HBB9.out; have := B1.size; omega
        exact ⟨own_base (hs.own ct.lo.outer) hbb, fun s hs' => own_base (hs.own (ct.lo.inner s hs')) hbb⟩
      · refine (List.perm_ext_iff_of_nodup HC.out.2.1 List.nodup_range).2 fun q => ?_
        constructor
        · intro hq; exact List.mem_range.2 (HC.out.2.2.1 q hq)
        · intro hq
          apply Classical.byContradiction
          intro hn
          have hp := (Dg.split_perm HC.out.2.1 HC.out.2.2.1).length_eq
          rw [List.length_range, List.length_append, HC.out.1] at hp
          have : q ∈ (List.range i).filter fun q => decide (q ∉ C) := List.mem_filter.2 ⟨hq, by simpa using hn⟩
          have := List.length_pos_of_mem this
          omega
end Go.Proofs.YtpkepgcmifdpfaaGreatDoor
end
