/- A bundle of texts: Co2, Co7, BuMath. -/
import Derived.Test.YtciolgmljpamlaaGreatDoorC23
import Derived.Test.YtciolgmljpamlaaGreatDoorC24
section
namespace Go.Proofs.YtciolgmljpamlaaGreatDoor
open Go Go.RowKit
set_option maxRecDepth 100000
theorem pairInfo : (Tryz.prog.info? 66).map (fun i => (i.zero, i.size, i.bytes)) = some (some (.agg #[.int .i64 0, .int .i64 0, .int .i64 0, .int .i64 0, .int .i64 0]), 5, 40) := by kernel_rfl
theorem loadInfo : (Tryz.prog.info? 68).map (fun i => (i.zero, i.size, i.bytes)) = some (some (.agg #[.int .i64 0, .int .i64 0, .int .i64 0, .int .i64 0, .int .i64 0]), 5, 40) := by kernel_rfl
structure RB (w : World) (base br : Nat) (ps ls : List P5) (vP vL : Value) : Prop where
  box : Box w br #[vP, vL, .slice none 0 0] 30
  p : w.ownsRow base 66 5 vP ps.length (flat 5 p5cell ps)
  l : w.ownsRow base 68 5 vL ls.length (flat 5 p5cell ls)
theorem RB.below {w w' : World} {base br : Nat} {ps ls : List P5} {vP vL : Value} (h : RB w base br ps ls vP vL) (hb : Below w.heap.size w w') : RB w' base br ps ls vP vL := ⟨h.box.below hb, own_below h.p hb, own_below h.l hb⟩
structure Fr (w w' : World) (br base : Nat) : Prop where
  below : Below br w w'
  box : ∀ b cs t, b ≠ br → b < base → Box w b cs t → Box w' b cs t
  size : w.heap.size ≤ w'.heap.size
theorem Fr.refl (w : World) (br base : Nat) : Fr w w br base := ⟨Below.refl _ _, fun _ _ _ _ _ h => h, Nat.le_refl _⟩
theorem Fr.trans {w w' w'' : World} {br base : Nat} (h : Fr w w' br base) (h2 : Fr w' w'' br base) : Fr w w'' br base := ⟨h.below.trans h2.below, fun b cs t h1 h3 hb => h2.box b cs t h1 h3 (h.box b cs t h1 h3 hb), Nat.le_trans h.size h2.size⟩
theorem Fr.of {w w' : World} {br base : Nat} (hb : Below w.heap.size w w') (hs : br ≤ w.heap.size) : Fr w w' br base := ⟨hb.mono hs, fun _ _ _ _ _ h => h.below hb, hb.size⟩
set_option maxHeartbeats 4000000 in
theorem addPair_ok (a b : St) (A B : Option Addr) (c d : Nat) (x y z : Int) (ba bb : Nat) (br base : Nat) (ps ls : List P5) (vP vL : Value) (w : World) (h : RB w base br ps ls vP vL) (ya : Box w ba (stc a A c) 40) (yb : Box w bb (stc b B d) 40) (hbr : br < base) (hbase : base ≤ w.heap.size) (hl : ps.length ≤ 1000) :
    Calls Tryz.prog 111 #[.int .i64 x, .int .i64 y, .int .i64 z, .pointer (some ⟨br, 0, none⟩), .pointer (some ⟨ba, 0, none⟩), .pointer (some ⟨bb, 0, none⟩)] w fun e w' => e = .returned (.tuple #[]) ∧ ∃ v', RB w' base br (ps ++ [⟨a.id, b.id, x, y, z⟩]) ls v' vL ∧ Fr w w' br base := by
  obtain ⟨i0, hi, hz0, hz1, hz2⟩ := info_parts pairInfo
  have Hi := Lib.hid hi; have Hz0 := Lib.hid hz0; have Hz1 := Lib.hid hz1; have Hz2 := Lib.hid hz2
  clear hi hz0 hz1 hz2
  obtain ⟨c0, c1, c2⟩ := h.box.c3
  have m0 := ya.c8.1
  have n0 := yb.c8.1
  have hown := h.p
  go_enter Tryz.func111, Tryz.ntmps111
  go_wp2_with (at_builtin; refine wpList_push (w0 := w) (cell := p5cell) (y := (⟨a.id, b.id, x, y, z⟩ : P5)) rfl _ _ _ rfl base base 66 i0 _ 40 Tryz.underlying26 Hi.out Hz0.out Hz1.out Hz2.out rfl (by decide) vP ps.length ps rfl hown _ _ rfl _ rfl (p5_one _) (by unfold maxLen; omega) (by omega) hbase (Nat.le_refl _) (Below.refl _ _) ?_; intro v' w' hown' hb' hg'; have b1 := h.box.grown hg' (h.box.ne_own (by decide) hown); obtain ⟨e0, e1, e2⟩ := b1.c3; have f0 := b1.frozen 0; obtain ⟨g', cap', rfl⟩ := ownsRow_succ hown')
  go_end0
  have ho2 := h.l.kept hg' (own_ne h.l h.p (by decide))
  have hne' : br ≠ g' := fun e => by have := (own_lt hown').1; omega
  refine ⟨rfl, _, ⟨b1.set 0 _, ?_, ownsRow_setCell_below ho2 (by dsimp only; omega) _⟩, ⟨?_, fun b' cs t h1 h2 h3 => ?_, ?_⟩⟩
  · rw [List.length_append]
    exact ownsRow_setCell_below hown' (by dsimp only; omega) _
  · exact (hb'.mono (Nat.le_of_lt hbr)).setCell (p := ⟨br, 0, none⟩) (Nat.le_refl _) _
  · exact (h3.belowB hb' h2).set_other (p := ⟨br, 0, none⟩) h1 _
  · rw [World.size_setCell]
    exact hg'.size
set_option maxHeartbeats 4000000 in
theorem addLoad_ok (to from_ z : Int) (lo hi : Int) (ba bb : Nat) (br base : Nat) (ps ls : List P5) (vP vL : Value) (w : World) (h : RB w base br ps ls vP vL) (ya : Box w ba #[.int .i64 lo] 3) (yb : Box w bb #[.int .i64 hi] 3) (hz : 0 < z) (hbr : br < base) (hbase : base ≤ w.heap.size) (hl : ls.length ≤ 1000) :
    Calls Tryz.prog 112 #[.int .i64 to, .int .i64 from_, .int .i64 z, .pointer (some ⟨br, 0, none⟩), .pointer (some ⟨ba, 0, none⟩), .pointer (some ⟨bb, 0, none⟩)] w fun e w' => e = .returned (.tuple #[]) ∧ ∃ v', RB w' base br ps (ls ++ [⟨to, from_, z, lo, hi⟩]) vP v' ∧ Fr w w' br base := by
  obtain ⟨i0, hi, hz0, hz1, hz2⟩ := info_parts loadInfo
  have Hi := Lib.hid hi; have Hz0 := Lib.hid hz0; have Hz1 := Lib.hid hz1; have Hz2 := Lib.hid hz2
  clear hi hz0 hz1 hz2
  obtain ⟨c0, c1, c2⟩ := h.box.c3
  have m0 := ya.c1
  have n0 := yb.c1
  have qz : decide (0 < z) = true := decide_eq_true hz
  have hown := h.l
  go_enter Tryz.func112, Tryz.ntmps112
  go_wp2_with (at_builtin; refine wpList_push (w0 := w) (cell := p5cell) (y := (⟨to, from_, z, lo, hi⟩ : P5)) rfl _ _ _ rfl base base 68 i0 _ 40 Tryz.underlying27 Hi.out Hz0.out Hz1.out Hz2.out rfl (by decide) vL ls.length ls rfl hown _ _ rfl _ rfl (p5_one _) (by unfold maxLen; omega) (by omega) hbase (Nat.le_refl _) (Below.refl _ _) ?_; intro v' w' hown' hb' hg'; have b1 := h.box.grown hg' (h.box.ne_own (by decide) hown); obtain ⟨e0, e1, e2⟩ := b1.c3; have f0 := b1.frozen 1; obtain ⟨g', cap', rfl⟩ := ownsRow_succ hown')
  go_end0
  have ho2 := h.p.kept hg' (own_ne h.p h.l (by decide))
  have hne' : br ≠ g' := fun e => by have := (own_lt hown').1; omega
  refine ⟨rfl, _, ⟨b1.set 1 _, ownsRow_setCell_below ho2 (by dsimp only; omega) _, ?_⟩, ⟨?_, fun b' cs t h1 h2 h3 => ?_, ?_⟩⟩
  · rw [List.length_append]
    exact ownsRow_setCell_below hown' (by dsimp only; omega) _
  · exact (hb'.mono (Nat.le_of_lt hbr)).setCell (p := ⟨br, 1, none⟩) (Nat.le_refl _) _
  · exact (h3.belowB hb' h2).set_other (p := ⟨br, 1, none⟩) h1 _
  · rw [World.size_setCell]
    exact hg'.size
set_option maxHeartbeats 4000000 in
theorem addLoad_no (to from_ z : Int) (br ba bb : Nat) (w : World) (hz : ¬ 0 < z) : Calls Tryz.prog 112 #[.int .i64 to, .int .i64 from_, .int .i64 z, .pointer (some ⟨br, 0, none⟩), .pointer (some ⟨ba, 0, none⟩), .pointer (some ⟨bb, 0, none⟩)] w fun e w' => e = .returned (.tuple #[]) ∧ w = w' := by
  have qz : decide (0 < z) = false := decide_eq_false hz
  go_enter Tryz.func112, Tryz.ntmps112
  go_wp2_with fail
  go_end0
  exact ⟨rfl, rfl⟩
end Go.Proofs.YtciolgmljpamlaaGreatDoor
end

section
namespace Go.Proofs.YtciolgmljpamlaaGreatDoor
open Go Go.RowKit
set_option maxRecDepth 100000
def M.mrg {α : Type} (cf : α → α → Int) : List α → List α → List α
  | [], b => b
  | x :: a, [] => x :: a
  | x :: a, y :: b => if cf x y < 0 then x :: M.mrg cf a (y :: b) else if cf x y = 0 then x :: M.mrg cf a b else y :: M.mrg cf (x :: a) b
termination_by a b => a.length + b.length
theorem M.mrg_nil {α : Type} (cf : α → α → Int) (b : List α) : M.mrg cf [] b = b := by rw [M.mrg]
theorem M.mrg_nil2 {α : Type} (cf : α → α → Int) (a : List α) : M.mrg cf a [] = a := by cases a <;> rw [M.mrg]
theorem M.mrg_lt {α : Type} {cf : α → α → Int} {x y : α} {a b : List α} (h : cf x y < 0) : M.mrg cf (x :: a) (y :: b) = x :: M.mrg cf a (y :: b) := by rw [M.mrg, if_pos h]
theorem M.mrg_eq {α : Type} {cf : α → α → Int} {x y : α} {a b : List α} (h : cf x y = 0) : M.mrg cf (x :: a) (y :: b) = x :: M.mrg cf a b := by rw [M.mrg, if_neg (by omega), if_pos h]
theorem M.mrg_gt {α : Type} {cf : α → α → Int} {x y : α} {a b : List α} (h : 0 < cf x y) : M.mrg cf (x :: a) (y :: b) = y :: M.mrg cf (x :: a) b := by rw [M.mrg, if_neg (by omega), if_neg (by omega)]
theorem own_cast {w : World} {base : Nat} {e : TypeId} {s : Nat} {v : Value} {n n' : Nat} {xs xs' : List Value} (h : w.ownsRow base e s v n xs) (hn : n = n') (hx : xs = xs') : w.ownsRow base e s v n' xs' := hn ▸ hx ▸ h
def lenOf : Value → Nat
  | .slice _ n _ => n
  | _ => 0
theorem Sl.tail {α : Type} {size : Nat} {cell : α → Nat → Value} {w : World} {B : Nat} {A : Option Addr} {x : α} {xs : List α} {c : Nat} (h : Sl size cell w B A (x :: xs)) (hc : (x :: xs).length ≤ c) : Sl size cell w B (if c = 1 then A else A.map (·.add (1 * size))) xs := by
  intro k hk
  obtain ⟨ad, e, hb, hj⟩ := h (k + 1) (by simp only [List.length_cons]; omega)
  have hne : c ≠ 1 := by simp only [List.length_cons] at hc; omega
  refine ⟨ad.add (1 * size), by rw [if_neg hne, e]; rfl, by unfold Addr.add; split <;> exact hb, fun j hj' => ?_⟩
  rw [add_add, show 1 * size + (k * size + j) = (k + 1) * size + j by rw [Nat.add_mul]; omega]
  exact hj j hj'
theorem capInfo : (Tryz.prog.info? 71).map (fun i => (i.zero, i.size, i.bytes)) = some (some (.agg #[.int .i64 0, .int .i64 0, .int .i64 0, .int .i64 0]), 4, 32) := by kernel_rfl
set_option maxHeartbeats 8000000 in
theorem mergePairs_any (A B : Option Addr) (c d : Nat) (xs ys : List P5) (w : World) (hA : Sl 5 p5cell w w.heap.size A xs) (hB : Sl 5 p5cell w w.heap.size B ys) (hc : xs.length ≤ c) (hd : ys.length ≤ d) (hl1 : xs.length ≤ 10000) (hl2 : ys.length ≤ 10000) :
    Calls Tryz.prog 82 #[.slice A xs.length c, .slice B ys.length d, .func (.func 41) #[] #[]] w fun e w' => (∃ v, e = .returned v ∧ w'.ownsRow w.heap.size 66 5 v (M.mrg M.cmp5 xs ys).length (flat 5 p5cell (M.mrg M.cmp5 xs ys))) ∧ Below w.heap.size w w' := by
  obtain ⟨i0, hi, hz0, hz1, hz2⟩ := info_parts pairInfo
  have Hi := Lib.hid hi; have Hz0 := Lib.hid hz0; have Hz1 := Lib.hid hz1; have Hz2 := Lib.hid hz2
  clear hi hz0 hz1 hz2
  go_enter Tryz.func82, Tryz.ntmps82
  go_wp2_with fail
  go_loopw [0, 1, 7, 8] (fun s0 s1 out _ wr => ∃ (A' B' : Option Addr) (c' d' na nb : Nat) (us vs os : List P5), s0 = .slice A' na c' ∧ s1 = .slice B' nb d' ∧ us.length = na ∧ vs.length = nb ∧ na ≤ c' ∧ nb ≤ d' ∧ os.length + na + nb ≤ 20000 ∧ Below w.heap.size w wr ∧ wr.ownsRow w.heap.size 66 5 out os.length (flat 5 p5cell os) ∧ Sl 5 p5cell w w.heap.size A' us ∧ Sl 5 p5cell w w.heap.size B' vs ∧ Hid (os ++ M.mrg M.cmp5 us vs = M.mrg M.cmp5 xs ys)) (fun s0 s1 _ _ _ => lenOf s0 + lenOf s1)
  case atStart => exact ⟨A, B, c, d, _, _, xs, ys, [], rfl, rfl, rfl, rfl, hc, hd, by simp; omega, Below.refl _ _, own_nil _ _ _ _ _, hA, hB, Lib.hid rfl⟩
  case round =>
    obtain ⟨A', B', c', d', na, nb, us, vs, os, rfl, rfl, hna, hnb, hc', hd', hn, hBr, hown, hA', hB', HM⟩ := hrel
    clear hA hB hc hd
    by_cases hz : us = [] ∨ vs = []
    · have HE : Hid (os ++ us ++ vs = M.mrg M.cmp5 xs ys) := Lib.hid (by rw [← HM.out]; rcases hz with h | h <;> rw [h] <;> simp [M.mrg_nil, M.mrg_nil2])
      subst hna
      subst hnb
      by_cases h1 : us.length = 0
      · have qa : decide ((0 : Int) < (us.length : Int)) = false := decide_eq_false (by omega)
        have qa' : decide (0 < us.length) = false := decide_eq_false (by omega)
        have N1 : os.length + (us : List P5).length ≤ 20000 := by omega
        have N2 : os.length + (us : List P5).length + (vs : List P5).length ≤ 20000 := by omega
        go_wp2_with (at_builtin; first | (refine wpList_append_sl _ (w0 := w) (cell := p5cell) rfl _ _ _ rfl w.heap.size w.heap.size 66 i0 _ 40 Tryz.underlying26 Hi.out Hz0.out Hz1.out Hz2.out rfl (by decide) _ os.length os rfl hown w.heap.size A' c' us rfl (hA'.below hBr) (fun y j => p5_one y j) (by unfold maxLen; omega) (by omega) hBr.size (Nat.le_refl _) hBr ?_; intro v1 w1 own1 B1 g1) | (refine wpList_append_sl _ (w0 := w) (cell := p5cell) rfl _ _ _ rfl w.heap.size w.heap.size 66 i0 _ 40 Tryz.underlying26 Hi.out Hz0.out Hz1.out Hz2.out rfl (by decide) _ _ _ rfl own1 w.heap.size B' d' vs rfl (hB'.below B1) (fun y j => p5_one y j) (by unfold maxLen; omega) (by omega) B1.size (Nat.le_refl _) B1 ?_; intro v2 w2 own2 B2 g2))
        go_ret
        exact ⟨⟨_, rfl, own_cast own2 (by rw [← HE.out, List.length_append, List.length_append]) (by rw [← HE.out])⟩, B2⟩
      · have h2 : vs.length = 0 := by rcases hz with h | h <;> simp [h] at h1 ⊢
        have qa : decide ((0 : Int) < (us.length : Int)) = true := decide_eq_true (by omega)
        have qa' : decide (0 < us.length) = true := decide_eq_true (by omega)
        have qb : decide ((0 : Int) < (vs.length : Int)) = false := decide_eq_false (by omega)
        have qb' : decide (0 < vs.length) = false := decide_eq_false (by omega)
        clear h2 h1 hz
        have N1 : os.length + (us : List P5).length ≤ 20000 := by omega
        have N2 : os.length + (us : List P5).length + (vs : List P5).length ≤ 20000 := by omega
        go_wp2_with (at_builtin; first | (refine wpList_append_sl _ (w0 := w) (cell := p5cell) rfl _ _ _ rfl w.heap.size w.heap.size 66 i0 _ 40 Tryz.underlying26 Hi.out Hz0.out Hz1.out Hz2.out rfl (by decide) _ os.length os rfl hown w.heap.size A' c' us rfl (hA'.below hBr) (fun y j => p5_one y j) (by unfold maxLen; omega) (by omega) hBr.size (Nat.le_refl _) hBr ?_; intro v1 w1 own1 B1 g1) | (refine wpList_append_sl _ (w0 := w) (cell := p5cell) rfl _ _ _ rfl w.heap.size w.heap.size 66 i0 _ 40 Tryz.underlying26 Hi.out Hz0.out Hz1.out Hz2.out rfl (by decide) _ _ _ rfl own1 w.heap.size B' d' vs rfl (hB'.below B1) (fun y j => p5_one y j) (by unfold maxLen; omega) (by omega) B1.size (Nat.le_refl _) B1 ?_; intro v2 w2 own2 B2 g2))
        go_ret
        exact ⟨⟨_, rfl, own_cast own2 (by rw [← HE.out, List.length_append, List.length_append]) (by rw [← HE.out])⟩, B2⟩
    cases us with
    | nil => exact absurd (.inl rfl) hz
    | cons x us => cases vs with
      | nil => exact absurd (.inr rfl) hz
      | cons y vs =>
        have hna' : us.length + 1 = na := hna
        have hnb' : vs.length + 1 = nb := hnb
        have qa : decide ((0 : Int) < (na : Int)) = true := decide_eq_true (by omega)
        have qb : decide ((0 : Int) < (nb : Int)) = true := decide_eq_true (by omega)
        have qa' : decide (0 < na) = true := decide_eq_true (by omega)
        have qb' : decide (0 < nb) = true := decide_eq_true (by omega)
        obtain ⟨la, rfl, hlb, a0, hj⟩ := (hA'.below hBr).sp (k := 0) (by decide) (by simp)
        obtain ⟨lb, rfl, hlb2, b0, hj2⟩ := (hB'.below hBr).sp (k := 0) (by decide) (by simp)
        have a1 := hj 1 (by decide) (by decide)
        have b1 := hj2 1 (by decide) (by decide)
        have a2 := hj 2 (by decide) (by decide)
        have b2 := hj2 2 (by decide) (by decide)
        have a3 := hj 3 (by decide) (by decide)
        have b3 := hj2 3 (by decide) (by decide)
        have a4 := hj 4 (by decide) (by decide)
        have b4 := hj2 4 (by decide) (by decide)
        clear hj hj2
        simp only [List.getElem_cons_zero, p5cell, Nat.zero_mul, Addr.add_zero'] at a0 b0 a1 b1 a2 b2 a3 b3 a4 b4 hlb hlb2
        have kC := Lib.hid (fun w1 => comparePairs_any x y w1)
        have l1 : la.block < wr.heap.size := Nat.lt_of_lt_of_le hlb hBr.size
        have l2 : lb.block < wr.heap.size := Nat.lt_of_lt_of_le hlb2 hBr.size
        obtain ⟨cr, HCR⟩ : ∃ cr, Hid (M.cmp5 x y = cr) := ⟨_, Lib.hid rfl⟩
        rw [HCR.out] at kC
        have HTA := Lib.hid (hA'.tail (by rw [hna]; exact hc'))
        have HTB := Lib.hid (hB'.tail (by rw [hnb]; exact hd'))
        by_cases hlt : cr < 0
        · skip
          have q1 : decide (cr ≤ 0) = true := decide_eq_true (by omega)
          have q2 : decide (0 ≤ cr) = false := decide_eq_false (by omega)
          have HM2 : Hid ((os ++ [x]) ++ M.mrg M.cmp5 us (y :: vs) = M.mrg M.cmp5 xs ys) := Lib.hid (by rw [← HM.out, M.mrg_lt (by rw [HCR.out]; exact hlt)]; simp)
          go_wp2_with fail
          refine wp_region_kept wr.heap.size wr (by kernel_rfl) (by kernel_rfl) (Below.refl _ _) ?_
          repeat (go_big_quiet_step ((go_at_call 41; exact Kept.calls (Nat.le_refl _) (kC.out _))))
          refine wpQuiet_nil ?_
          rintro w5 ⟨⟨_, hb5⟩, rfl⟩
          have B5 := after_ hBr hb5
          have o5 := own_below hown hb5
          have s0 := (hb5.cell (p := la) l1).trans a0
          have s1 := (hb5.cell (p := ⟨la.block, la.off + 1, none⟩) l1).trans a1
          have s2 := (hb5.cell (p := ⟨la.block, la.off + 2, none⟩) l1).trans a2
          have s3 := (hb5.cell (p := ⟨la.block, la.off + 3, none⟩) l1).trans a3
          have s4 := (hb5.cell (p := ⟨la.block, la.off + 4, none⟩) l1).trans a4
          go_wp2_with (at_builtin; refine wpList_push (w0 := w) (cell := p5cell) (y := x) rfl _ _ _ rfl w.heap.size w.heap.size 66 i0 _ 40 Tryz.underlying26 Hi.out Hz0.out Hz1.out Hz2.out rfl (by decide) _ os.length os rfl o5 _ _ rfl _ rfl (p5_one _) (by unfold maxLen; omega) (by omega) B5.size (Nat.le_refl _) B5 ?_; intro v' w' hown' hb' hg')
          go_roundw
          case rel => exact ⟨_, _, _, _, na - 1, nb, us, (y :: vs), os ++ [x], rfl, rfl, by first | omega | (simp only [List.length_cons]; omega), by first | omega | (simp only [List.length_cons]; omega), by omega, by omega, by simp only [List.length_append, List.length_cons, List.length_nil]; omega, hb', by rw [List.length_append]; exact hown', HTA.out, hB', HM2⟩
          case measure => simp [lenOf]; omega
        by_cases heq : cr = 0
        · skip
          have q1 : decide (cr ≤ 0) = true := decide_eq_true (by omega)
          have q2 : decide (0 ≤ cr) = true := decide_eq_true (by omega)
          have HM2 : Hid ((os ++ [x]) ++ M.mrg M.cmp5 us vs = M.mrg M.cmp5 xs ys) := Lib.hid (by rw [← HM.out, M.mrg_eq (by rw [HCR.out]; exact heq)]; simp)
          go_wp2_with fail
          refine wp_region_kept wr.heap.size wr (by kernel_rfl) (by kernel_rfl) (Below.refl _ _) ?_
          repeat (go_big_quiet_step ((go_at_call 41; exact Kept.calls (Nat.le_refl _) (kC.out _))))
          refine wpQuiet_nil ?_
          rintro w5 ⟨⟨_, hb5⟩, rfl⟩
          have B5 := after_ hBr hb5
          have o5 := own_below hown hb5
          have s0 := (hb5.cell (p := la) l1).trans a0
          have s1 := (hb5.cell (p := ⟨la.block, la.off + 1, none⟩) l1).trans a1
          have s2 := (hb5.cell (p := ⟨la.block, la.off + 2, none⟩) l1).trans a2
          have s3 := (hb5.cell (p := ⟨la.block, la.off + 3, none⟩) l1).trans a3
          have s4 := (hb5.cell (p := ⟨la.block, la.off + 4, none⟩) l1).trans a4
          go_wp2_with (at_builtin; refine wpList_push (w0 := w) (cell := p5cell) (y := x) rfl _ _ _ rfl w.heap.size w.heap.size 66 i0 _ 40 Tryz.underlying26 Hi.out Hz0.out Hz1.out Hz2.out rfl (by decide) _ os.length os rfl o5 _ _ rfl _ rfl (p5_one _) (by unfold maxLen; omega) (by omega) B5.size (Nat.le_refl _) B5 ?_; intro v' w' hown' hb' hg')
          go_roundw
          case rel => exact ⟨_, _, _, _, na - 1, nb - 1, us, vs, os ++ [x], rfl, rfl, by first | omega | (simp only [List.length_cons]; omega), by first | omega | (simp only [List.length_cons]; omega), by omega, by omega, by simp only [List.length_append, List.length_cons, List.length_nil]; omega, hb', by rw [List.length_append]; exact hown', HTA.out, HTB.out, HM2⟩
          case measure => simp [lenOf]; omega
        have hgt : 0 < cr := by omega
        have q1 : decide (cr ≤ 0) = false := decide_eq_false (by omega)
        have q2 : decide (0 ≤ cr) = true := decide_eq_true (by omega)
        have HM2 : Hid ((os ++ [y]) ++ M.mrg M.cmp5 (x :: us) vs = M.mrg M.cmp5 xs ys) := Lib.hid (by rw [← HM.out, M.mrg_gt (by rw [HCR.out]; exact hgt)]; simp)
        go_wp2_with fail
        refine wp_region_kept wr.heap.size wr (by kernel_rfl) (by kernel_rfl) (Below.refl _ _) ?_
        repeat (go_big_quiet_step ((go_at_call 41; exact Kept.calls (Nat.le_refl _) (kC.out _))))
        refine wpQuiet_nil ?_
        rintro w5 ⟨⟨_, hb5⟩, rfl⟩
        have B5 := after_ hBr hb5
        have o5 := own_below hown hb5
        have s0 := (hb5.cell (p := lb) l2).trans b0
        have s1 := (hb5.cell (p := ⟨lb.block, lb.off + 1, none⟩) l2).trans b1
        have s2 := (hb5.cell (p := ⟨lb.block, lb.off + 2, none⟩) l2).trans b2
        have s3 := (hb5.cell (p := ⟨lb.block, lb.off + 3, none⟩) l2).trans b3
        have s4 := (hb5.cell (p := ⟨lb.block, lb.off + 4, none⟩) l2).trans b4
        go_wp2_with (at_builtin; refine wpList_push (w0 := w) (cell := p5cell) (y := y) rfl _ _ _ rfl w.heap.size w.heap.size 66 i0 _ 40 Tryz.underlying26 Hi.out Hz0.out Hz1.out Hz2.out rfl (by decide) _ os.length os rfl o5 _ _ rfl _ rfl (p5_one _) (by unfold maxLen; omega) (by omega) B5.size (Nat.le_refl _) B5 ?_; intro v' w' hown' hb' hg')
        go_roundw
        case rel => exact ⟨_, _, _, _, na, nb - 1, (x :: us), vs, os ++ [y], rfl, rfl, by first | omega | (simp only [List.length_cons]; omega), by first | omega | (simp only [List.length_cons]; omega), by omega, by omega, by simp only [List.length_append, List.length_cons, List.length_nil]; omega, hb', by rw [List.length_append]; exact hown', hA', HTB.out, HM2⟩
        case measure => simp [lenOf]; omega
set_option maxHeartbeats 8000000 in
theorem mergeLoads_any (A B : Option Addr) (c d : Nat) (xs ys : List P5) (w : World) (hA : Sl 5 p5cell w w.heap.size A xs) (hB : Sl 5 p5cell w w.heap.size B ys) (hc : xs.length ≤ c) (hd : ys.length ≤ d) (hl1 : xs.length ≤ 10000) (hl2 : ys.length ≤ 10000) :
    Calls Tryz.prog 83 #[.slice A xs.length c, .slice B ys.length d, .func (.func 44) #[] #[]] w fun e w' => (∃ v, e = .returned v ∧ w'.ownsRow w.heap.size 68 5 v (M.mrg M.cmp5 xs ys).length (flat 5 p5cell (M.mrg M.cmp5 xs ys))) ∧ Below w.heap.size w w' := by
  obtain ⟨i0, hi, hz0, hz1, hz2⟩ := info_parts loadInfo
  have Hi := Lib.hid hi; have Hz0 := Lib.hid hz0; have Hz1 := Lib.hid hz1; have Hz2 := Lib.hid hz2
  clear hi hz0 hz1 hz2
  go_enter Tryz.func83, Tryz.ntmps83
  go_wp2_with fail
  go_loopw [0, 1, 7, 8] (fun s0 s1 out _ wr => ∃ (A' B' : Option Addr) (c' d' na nb : Nat) (us vs os : List P5), s0 = .slice A' na c' ∧ s1 = .slice B' nb d' ∧ us.length = na ∧ vs.length = nb ∧ na ≤ c' ∧ nb ≤ d' ∧ os.length + na + nb ≤ 20000 ∧ Below w.heap.size w wr ∧ wr.ownsRow w.heap.size 68 5 out os.length (flat 5 p5cell os) ∧ Sl 5 p5cell w w.heap.size A' us ∧ Sl 5 p5cell w w.heap.size B' vs ∧ Hid (os ++ M.mrg M.cmp5 us vs = M.mrg M.cmp5 xs ys)) (fun s0 s1 _ _ _ => lenOf s0 + lenOf s1)
  case atStart => exact ⟨A, B, c, d, _, _, xs, ys, [], rfl, rfl, rfl, rfl, hc, hd, by simp; omega, Below.refl _ _, own_nil _ _ _ _ _, hA, hB, Lib.hid rfl⟩
  case round =>
    obtain ⟨A', B', c', d', na, nb, us, vs, os, rfl, rfl, hna, hnb, hc', hd', hn, hBr, hown, hA', hB', HM⟩ := hrel
    clear hA hB hc hd
    by_cases hz : us = [] ∨ vs = []
    · have HE : Hid (os ++ us ++ vs = M.mrg M.cmp5 xs ys) := Lib.hid (by rw [← HM.out]; rcases hz with h | h <;> rw [h] <;> simp [M.mrg_nil, M.mrg_nil2])
      subst hna
      subst hnb
      by_cases h1 : us.length = 0
      · have qa : decide ((0 : Int) < (us.length : Int)) = false := decide_eq_false (by omega)
        have qa' : decide (0 < us.length) = false := decide_eq_false (by omega)
        have N1 : os.length + (us : List P5).length ≤ 20000 := by omega
        have N2 : os.length + (us : List P5).length + (vs : List P5).length ≤ 20000 := by omega
        go_wp2_with (at_builtin; first | (refine wpList_append_sl _ (w0 := w) (cell := p5cell) rfl _ _ _ rfl w.heap.size w.heap.size 68 i0 _ 40 Tryz.underlying27 Hi.out Hz0.out Hz1.out Hz2.out rfl (by decide) _ os.length os rfl hown w.heap.size A' c' us rfl (hA'.below hBr) (fun y j => p5_one y j) (by unfold maxLen; omega) (by omega) hBr.size (Nat.le_refl _) hBr ?_; intro v1 w1 own1 B1 g1) | (refine wpList_append_sl _ (w0 := w) (cell := p5cell) rfl _ _ _ rfl w.heap.size w.heap.size 68 i0 _ 40 Tryz.underlying27 Hi.out Hz0.out Hz1.out Hz2.out rfl (by decide) _ _ _ rfl own1 w.heap.size B' d' vs rfl (hB'.below B1) (fun y j => p5_one y j) (by unfold maxLen; omega) (by omega) B1.size (Nat.le_refl _) B1 ?_; intro v2 w2 own2 B2 g2))
        go_ret
        exact ⟨⟨_, rfl, own_cast own2 (by rw [← HE.out, List.length_append, List.length_append]) (by rw [← HE.out])⟩, B2⟩
      · have h2 : vs.length = 0 := by rcases hz with h | h <;> simp [h] at h1 ⊢
        have qa : decide ((0 : Int) < (us.length : Int)) = true := decide_eq_true (by omega)
        have qa' : decide (0 < us.length) = true := decide_eq_true (by omega)
        have qb : decide ((0 : Int) < (vs.length : Int)) = false := decide_eq_false (by omega)
        have qb' : decide (0 < vs.length) = false := decide_eq_false (by omega)
        clear h2 h1 hz
        have N1 : os.length + (us : List P5).length ≤ 20000 := by omega
        have N2 : os.length + (us : List P5).length + (vs : List P5).length ≤ 20000 := by omega
        go_wp2_with (at_builtin; first | (refine wpList_append_sl _ (w0 := w) (cell := p5cell) rfl _ _ _ rfl w.heap.size w.heap.size 68 i0 _ 40 Tryz.underlying27 Hi.out Hz0.out Hz1.out Hz2.out rfl (by decide) _ os.length os rfl hown w.heap.size A' c' us rfl (hA'.below hBr) (fun y j => p5_one y j) (by unfold maxLen; omega) (by omega) hBr.size (Nat.le_refl _) hBr ?_; intro v1 w1 own1 B1 g1) | (refine wpList_append_sl _ (w0 := w) (cell := p5cell) rfl _ _ _ rfl w.heap.size w.heap.size 68 i0 _ 40 Tryz.underlying27 Hi.out Hz0.out Hz1.out Hz2.out rfl (by decide) _ _ _ rfl own1 w.heap.size B' d' vs rfl (hB'.below B1) (fun y j => p5_one y j) (by unfold maxLen; omega) (by omega) B1.size (Nat.le_refl _) B1 ?_; intro v2 w2 own2 B2 g2))
        go_ret
        exact ⟨⟨_, rfl, own_cast own2 (by rw [← HE.out, List.length_append, List.length_append]) (by rw [← HE.out])⟩, B2⟩
    cases us with
    | nil => exact absurd (.inl rfl) hz
    | cons x us => cases vs with
      | nil => exact absurd (.inr rfl) hz
      | cons y vs =>
        have hna' : us.length + 1 = na := hna
        have hnb' : vs.length + 1 = nb := hnb
        have qa : decide ((0 : Int) < (na : Int)) = true := decide_eq_true (by omega)
        have qb : decide ((0 : Int) < (nb : Int)) = true := decide_eq_true (by omega)
        have qa' : decide (0 < na) = true := decide_eq_true (by omega)
        have qb' : decide (0 < nb) = true := decide_eq_true (by omega)
        obtain ⟨la, rfl, hlb, a0, hj⟩ := (hA'.below hBr).sp (k := 0) (by decide) (by simp)
        obtain ⟨lb, rfl, hlb2, b0, hj2⟩ := (hB'.below hBr).sp (k := 0) (by decide) (by simp)
        have a1 := hj 1 (by decide) (by decide)
        have b1 := hj2 1 (by decide) (by decide)
        have a2 := hj 2 (by decide) (by decide)
        have b2 := hj2 2 (by decide) (by decide)
        have a3 := hj 3 (by decide) (by decide)
        have b3 := hj2 3 (by decide) (by decide)
        have a4 := hj 4 (by decide) (by decide)
        have b4 := hj2 4 (by decide) (by decide)
        clear hj hj2
        simp only [List.getElem_cons_zero, p5cell, Nat.zero_mul, Addr.add_zero'] at a0 b0 a1 b1 a2 b2 a3 b3 a4 b4 hlb hlb2
        have kC := Lib.hid (fun w1 => compareLoads_any x y w1)
        have l1 : la.block < wr.heap.size := Nat.lt_of_lt_of_le hlb hBr.size
        have l2 : lb.block < wr.heap.size := Nat.lt_of_lt_of_le hlb2 hBr.size
        obtain ⟨cr, HCR⟩ : ∃ cr, Hid (M.cmp5 x y = cr) := ⟨_, Lib.hid rfl⟩
        rw [HCR.out] at kC
        have HTA := Lib.hid (hA'.tail (by rw [hna]; exact hc'))
        have HTB := Lib.hid (hB'.tail (by rw [hnb]; exact hd'))
        by_cases hlt : cr < 0
        · skip
          have q1 : decide (cr ≤ 0) = true := decide_eq_true (by omega)
          have q2 : decide (0 ≤ cr) = false := decide_eq_false (by omega)
          have HM2 : Hid ((os ++ [x]) ++ M.mrg M.cmp5 us (y :: vs) = M.mrg M.cmp5 xs ys) := Lib.hid (by rw [← HM.out, M.mrg_lt (by rw [HCR.out]; exact hlt)]; simp)
          go_wp2_with fail
          refine wp_region_kept wr.heap.size wr (by kernel_rfl) (by kernel_rfl) (Below.refl _ _) ?_
          repeat (go_big_quiet_step ((go_at_call 44; exact Kept.calls (Nat.le_refl _) (kC.out _))))
          refine wpQuiet_nil ?_
          rintro w5 ⟨⟨_, hb5⟩, rfl⟩
          have B5 := after_ hBr hb5
          have o5 := own_below hown hb5
          have s0 := (hb5.cell (p := la) l1).trans a0
          have s1 := (hb5.cell (p := ⟨la.block, la.off + 1, none⟩) l1).trans a1
          have s2 := (hb5.cell (p := ⟨la.block, la.off + 2, none⟩) l1).trans a2
          have s3 := (hb5.cell (p := ⟨la.block, la.off + 3, none⟩) l1).trans a3
          have s4 := (hb5.cell (p := ⟨la.block, la.off + 4, none⟩) l1).trans a4
          go_wp2_with (at_builtin; refine wpList_push (w0 := w) (cell := p5cell) (y := x) rfl _ _ _ rfl w.heap.size w.heap.size 68 i0 _ 40 Tryz.underlying27 Hi.out Hz0.out Hz1.out Hz2.out rfl (by decide) _ os.length os rfl o5 _ _ rfl _ rfl (p5_one _) (by unfold maxLen; omega) (by omega) B5.size (Nat.le_refl _) B5 ?_; intro v' w' hown' hb' hg')
          go_roundw
          case rel => exact ⟨_, _, _, _, na - 1, nb, us, (y :: vs), os ++ [x], rfl, rfl, by first | omega | (simp only [List.length_cons]; omega), by first | omega | (simp only [List.length_cons]; omega), by omega, by omega, by simp only [List.length_append, List.length_cons, List.length_nil]; omega, hb', by rw [List.length_append]; exact hown', HTA.out, hB', HM2⟩
          case measure => simp [lenOf]; omega
        by_cases heq : cr = 0
        · skip
          have q1 : decide (cr ≤ 0) = true := decide_eq_true (by omega)
          have q2 : decide (0 ≤ cr) = true := decide_eq_true (by omega)
          have HM2 : Hid ((os ++ [x]) ++ M.mrg M.cmp5 us vs = M.mrg M.cmp5 xs ys) := Lib.hid (by rw [← HM.out, M.mrg_eq (by rw [HCR.out]; exact heq)]; simp)
          go_wp2_with fail
          refine wp_region_kept wr.heap.size wr (by kernel_rfl) (by kernel_rfl) (Below.refl _ _) ?_
          repeat (go_big_quiet_step ((go_at_call 44; exact Kept.calls (Nat.le_refl _) (kC.out _))))
          refine wpQuiet_nil ?_
          rintro w5 ⟨⟨_, hb5⟩, rfl⟩
          have B5 := after_ hBr hb5
          have o5 := own_below hown hb5
          have s0 := (hb5.cell (p := la) l1).trans a0
          have s1 := (hb5.cell (p := ⟨la.block, la.off + 1, none⟩) l1).trans a1
          have s2 := (hb5.cell (p := ⟨la.block, la.off + 2, none⟩) l1).trans a2
          have s3 := (hb5.cell (p := ⟨la.block, la.off + 3, none⟩) l1).trans a3
          have s4 := (hb5.cell (p := ⟨la.block, la.off + 4, none⟩) l1).trans a4
          go_wp2_with (at_builtin; refine wpList_push (w0 := w) (cell := p5cell) (y := x) rfl _ _ _ rfl w.heap.size w.heap.size 68 i0 _ 40 Tryz.underlying27 Hi.out Hz0.out Hz1.out Hz2.out rfl (by decide) _ os.length os rfl o5 _ _ rfl _ rfl (p5_one _) (by unfold maxLen; omega) (by omega) B5.size (Nat.le_refl _) B5 ?_; intro v' w' hown' hb' hg')
          go_roundw
          case rel => exact ⟨_, _, _, _, na - 1, nb - 1, us, vs, os ++ [x], rfl, rfl, by first | omega | (simp only [List.length_cons]; omega), by first | omega | (simp only [List.length_cons]; omega), by omega, by omega, by simp only [List.length_append, List.length_cons, List.length_nil]; omega, hb', by rw [List.length_append]; exact hown', HTA.out, HTB.out, HM2⟩
          case measure => simp [lenOf]; omega
        have hgt : 0 < cr := by omega
        have q1 : decide (cr ≤ 0) = false := decide_eq_false (by omega)
        have q2 : decide (0 ≤ cr) = true := decide_eq_true (by omega)
        have HM2 : Hid ((os ++ [y]) ++ M.mrg M.cmp5 (x :: us) vs = M.mrg M.cmp5 xs ys) := Lib.hid (by rw [← HM.out, M.mrg_gt (by rw [HCR.out]; exact hgt)]; simp)
        go_wp2_with fail
        refine wp_region_kept wr.heap.size wr (by kernel_rfl) (by kernel_rfl) (Below.refl _ _) ?_
        repeat (go_big_quiet_step ((go_at_call 44; exact Kept.calls (Nat.le_refl _) (kC.out _))))
        refine wpQuiet_nil ?_
        rintro w5 ⟨⟨_, hb5⟩, rfl⟩
        have B5 := after_ hBr hb5
        have o5 := own_below hown hb5
        have s0 := (hb5.cell (p := lb) l2).trans b0
        have s1 := (hb5.cell (p := ⟨lb.block, lb.off + 1, none⟩) l2).trans b1
        have s2 := (hb5.cell (p := ⟨lb.block, lb.off + 2, none⟩) l2).trans b2
        have s3 := (hb5.cell (p := ⟨lb.block, lb.off + 3, none⟩) l2).trans b3
        have s4 := (hb5.cell (p := ⟨lb.block, lb.off + 4, none⟩) l2).trans b4
        go_wp2_with (at_builtin; refine wpList_push (w0 := w) (cell := p5cell) (y := y) rfl _ _ _ rfl w.heap.size w.heap.size 68 i0 _ 40 Tryz.underlying27 Hi.out Hz0.out Hz1.out Hz2.out rfl (by decide) _ os.length os rfl o5 _ _ rfl _ rfl (p5_one _) (by unfold maxLen; omega) (by omega) B5.size (Nat.le_refl _) B5 ?_; intro v' w' hown' hb' hg')
        go_roundw
        case rel => exact ⟨_, _, _, _, na, nb - 1, (x :: us), vs, os ++ [y], rfl, rfl, by first | omega | (simp only [List.length_cons]; omega), by first | omega | (simp only [List.length_cons]; omega), by omega, by omega, by simp only [List.length_append, List.length_cons, List.length_nil]; omega, hb', by rw [List.length_append]; exact hown', hA', HTB.out, HM2⟩
        case measure => simp [lenOf]; omega
set_option maxHeartbeats 8000000 in
theorem mergeCaps_any (A B : Option Addr) (c d : Nat) (xs ys : List P4) (w : World) (hA : Sl 4 p4cell w w.heap.size A xs) (hB : Sl 4 p4cell w w.heap.size B ys) (hc : xs.length ≤ c) (hd : ys.length ≤ d) (hl1 : xs.length ≤ 10000) (hl2 : ys.length ≤ 10000) :
    Calls Tryz.prog 84 #[.slice A xs.length c, .slice B ys.length d, .func (.func 47) #[] #[]] w fun e w' => (∃ v, e = .returned v ∧ w'.ownsRow w.heap.size 71 4 v (M.mrg M.cmp4 xs ys).length (flat 4 p4cell (M.mrg M.cmp4 xs ys))) ∧ Below w.heap.size w w' := by
  obtain ⟨i0, hi, hz0, hz1, hz2⟩ := info_parts capInfo
  have Hi := Lib.hid hi; have Hz0 := Lib.hid hz0; have Hz1 := Lib.hid hz1; have Hz2 := Lib.hid hz2
  clear hi hz0 hz1 hz2
  go_enter Tryz.func84, Tryz.ntmps84
  go_wp2_with fail
  go_loopw [0, 1, 7, 8] (fun s0 s1 out _ wr => ∃ (A' B' : Option Addr) (c' d' na nb : Nat) (us vs os : List P4), s0 = .slice A' na c' ∧ s1 = .slice B' nb d' ∧ us.length = na ∧ vs.length = nb ∧ na ≤ c' ∧ nb ≤ d' ∧ os.length + na + nb ≤ 20000 ∧ Below w.heap.size w wr ∧ wr.ownsRow w.heap.size 71 4 out os.length (flat 4 p4cell os) ∧ Sl 4 p4cell w w.heap.size A' us ∧ Sl 4 p4cell w w.heap.size B' vs ∧ Hid (os ++ M.mrg M.cmp4 us vs = M.mrg M.cmp4 xs ys)) (fun s0 s1 _ _ _ => lenOf s0 + lenOf s1)
  case atStart => exact ⟨A, B, c, d, _, _, xs, ys, [], rfl, rfl, rfl, rfl, hc, hd, by simp; omega, Below.refl _ _, own_nil _ _ _ _ _, hA, hB, Lib.hid rfl⟩
  case round =>
    obtain ⟨A', B', c', d', na, nb, us, vs, os, rfl, rfl, hna, hnb, hc', hd', hn, hBr, hown, hA', hB', HM⟩ := hrel
    clear hA hB hc hd
    by_cases hz : us = [] ∨ vs = []
    · have HE : Hid (os ++ us ++ vs = M.mrg M.cmp4 xs ys) := Lib.hid (by rw [← HM.out]; rcases hz with h | h <;> rw [h] <;> simp [M.mrg_nil, M.mrg_nil2])
      subst hna
      subst hnb
      by_cases h1 : us.length = 0
      · have qa : decide ((0 : Int) < (us.length : Int)) = false := decide_eq_false (by omega)
        have qa' : decide (0 < us.length) = false := decide_eq_false (by omega)
        have N1 : os.length + (us : List P4).length ≤ 20000 := by omega
        have N2 : os.length + (us : List P4).length + (vs : List P4).length ≤ 20000 := by omega
        go_wp2_with (at_builtin; first | (refine wpList_append_sl _ (w0 := w) (cell := p4cell) rfl _ _ _ rfl w.heap.size w.heap.size 71 i0 _ 32 Tryz.underlying28 Hi.out Hz0.out Hz1.out Hz2.out rfl (by decide) _ os.length os rfl hown w.heap.size A' c' us rfl (hA'.below hBr) (fun y j => p4_one y j) (by unfold maxLen; omega) (by omega) hBr.size (Nat.le_refl _) hBr ?_; intro v1 w1 own1 B1 g1) | (refine wpList_append_sl _ (w0 := w) (cell := p4cell) rfl _ _ _ rfl w.heap.size w.heap.size 71 i0 _ 32 Tryz.underlying28 Hi.out Hz0.out Hz1.out Hz2.out rfl (by decide) _ _ _ rfl own1 w.heap.size B' d' vs rfl (hB'.below B1) (fun y j => p4_one y j) (by unfold maxLen; omega) (by omega) B1.size (Nat.le_refl _) B1 ?_; intro v2 w2 own2 B2 g2))
        go_ret
        exact ⟨⟨_, rfl, own_cast own2 (by rw [← HE.out, List.length_append, List.length_append]) (by rw [← HE.out])⟩, B2⟩
      · have h2 : vs.length = 0 := by rcases hz with h | h <;> simp [h] at h1 ⊢
        have qa : decide ((0 : Int) < (us.length : Int)) = true := decide_eq_true (by omega)
        have qa' : decide (0 < us.length) = true := decide_eq_true (by omega)
        have qb : decide ((0 : Int) < (vs.length : Int)) = false := decide_eq_false (by omega)
        have qb' : decide (0 < vs.length) = false := decide_eq_false (by omega)
        clear h2 h1 hz
        have N1 : os.length + (us : List P4).length ≤ 20000 := by omega
        have N2 : os.length + (us : List P4).length + (vs : List P4).length ≤ 20000 := by omega
        go_wp2_with (at_builtin; first | (refine wpList_append_sl _ (w0 := w) (cell := p4cell) rfl _ _ _ rfl w.heap.size w.heap.size 71 i0 _ 32 Tryz.underlying28 Hi.out Hz0.out Hz1.out Hz2.out rfl (by decide) _ os.length os rfl hown w.heap.size A' c' us rfl (hA'.below hBr) (fun y j => p4_one y j) (by unfold maxLen; omega) (by omega) hBr.size (Nat.le_refl _) hBr ?_; intro v1 w1 own1 B1 g1) | (refine wpList_append_sl _ (w0 := w) (cell := p4cell) rfl _ _ _ rfl w.heap.size w.heap.size 71 i0 _ 32 Tryz.underlying28 Hi.out Hz0.out Hz1.out Hz2.out rfl (by decide) _ _ _ rfl own1 w.heap.size B' d' vs rfl (hB'.below B1) (fun y j => p4_one y j) (by unfold maxLen; omega) (by omega) B1.size (Nat.le_refl _) B1 ?_; intro v2 w2 own2 B2 g2))
        go_ret
        exact ⟨⟨_, rfl, own_cast own2 (by rw [← HE.out, List.length_append, List.length_append]) (by rw [← HE.out])⟩, B2⟩
    cases us with
    | nil => exact absurd (.inl rfl) hz
    | cons x us => cases vs with
      | nil => exact absurd (.inr rfl) hz
      | cons y vs =>
        have hna' : us.length + 1 = na := hna
        have hnb' : vs.length + 1 = nb := hnb
        have qa : decide ((0 : Int) < (na : Int)) = true := decide_eq_true (by omega)
        have qb : decide ((0 : Int) < (nb : Int)) = true := decide_eq_true (by omega)
        have qa' : decide (0 < na) = true := decide_eq_true (by omega)
        have qb' : decide (0 < nb) = true := decide_eq_true (by omega)
        obtain ⟨la, rfl, hlb, a0, hj⟩ := (hA'.below hBr).sp (k := 0) (by decide) (by simp)
        obtain ⟨lb, rfl, hlb2, b0, hj2⟩ := (hB'.below hBr).sp (k := 0) (by decide) (by simp)
        have a1 := hj 1 (by decide) (by decide)
        have b1 := hj2 1 (by decide) (by decide)
        have a2 := hj 2 (by decide) (by decide)
        have b2 := hj2 2 (by decide) (by decide)
        have a3 := hj 3 (by decide) (by decide)
        have b3 := hj2 3 (by decide) (by decide)
        clear hj hj2
        simp only [List.getElem_cons_zero, p4cell, Nat.zero_mul, Addr.add_zero'] at a0 b0 a1 b1 a2 b2 a3 b3 hlb hlb2
        have kC := Lib.hid (fun w1 => compareCaps_any x y w1)
        have l1 : la.block < wr.heap.size := Nat.lt_of_lt_of_le hlb hBr.size
        have l2 : lb.block < wr.heap.size := Nat.lt_of_lt_of_le hlb2 hBr.size
        obtain ⟨cr, HCR⟩ : ∃ cr, Hid (M.cmp4 x y = cr) := ⟨_, Lib.hid rfl⟩
        rw [HCR.out] at kC
        have HTA := Lib.hid (hA'.tail (by rw [hna]; exact hc'))
        have HTB := Lib.hid (hB'.tail (by rw [hnb]; exact hd'))
        by_cases hlt : cr < 0
        · skip
          have q1 : decide (cr ≤ 0) = true := decide_eq_true (by omega)
          have q2 : decide (0 ≤ cr) = false := decide_eq_false (by omega)
          have HM2 : Hid ((os ++ [x]) ++ M.mrg M.cmp4 us (y :: vs) = M.mrg M.cmp4 xs ys) := Lib.hid (by rw [← HM.out, M.mrg_lt (by rw [HCR.out]; exact hlt)]; simp)
          go_wp2_with fail
          refine wp_region_kept wr.heap.size wr (by kernel_rfl) (by kernel_rfl) (Below.refl _ _) ?_
          repeat (go_big_quiet_step ((go_at_call 47; exact Kept.calls (Nat.le_refl _) (kC.out _))))
          refine wpQuiet_nil ?_
          rintro w5 ⟨⟨_, hb5⟩, rfl⟩
          have B5 := after_ hBr hb5
          have o5 := own_below hown hb5
          have s0 := (hb5.cell (p := la) l1).trans a0
          have s1 := (hb5.cell (p := ⟨la.block, la.off + 1, none⟩) l1).trans a1
          have s2 := (hb5.cell (p := ⟨la.block, la.off + 2, none⟩) l1).trans a2
          have s3 := (hb5.cell (p := ⟨la.block, la.off + 3, none⟩) l1).trans a3
          go_wp2_with (at_builtin; refine wpList_push (w0 := w) (cell := p4cell) (y := x) rfl _ _ _ rfl w.heap.size w.heap.size 71 i0 _ 32 Tryz.underlying28 Hi.out Hz0.out Hz1.out Hz2.out rfl (by decide) _ os.length os rfl o5 _ _ rfl _ rfl (p4_one _) (by unfold maxLen; omega) (by omega) B5.size (Nat.le_refl _) B5 ?_; intro v' w' hown' hb' hg')
          go_roundw
          case rel => exact ⟨_, _, _, _, na - 1, nb, us, (y :: vs), os ++ [x], rfl, rfl, by first | omega | (simp only [List.length_cons]; omega), by first | omega | (simp only [List.length_cons]; omega), by omega, by omega, by simp only [List.length_append, List.length_cons, List.length_nil]; omega, hb', by rw [List.length_append]; exact hown', HTA.out, hB', HM2⟩
          case measure => simp [lenOf]; omega
        by_cases heq : cr = 0
        · skip
          have q1 : decide (cr ≤ 0) = true := decide_eq_true (by omega)
          have q2 : decide (0 ≤ cr) = true := decide_eq_true (by omega)
          have HM2 : Hid ((os ++ [x]) ++ M.mrg M.cmp4 us vs = M.mrg M.cmp4 xs ys) := Lib.hid (by rw [← HM.out, M.mrg_eq (by rw [HCR.out]; exact heq)]; simp)
          go_wp2_with fail
          refine wp_region_kept wr.heap.size wr (by kernel_rfl) (by kernel_rfl) (Below.refl _ _) ?_
          repeat (go_big_quiet_step ((go_at_call 47; exact Kept.calls (Nat.le_refl _) (kC.out _))))
          refine wpQuiet_nil ?_
          rintro w5 ⟨⟨_, hb5⟩, rfl⟩
          have B5 := after_ hBr hb5
          have o5 := own_below hown hb5
          have s0 := (hb5.cell (p := la) l1).trans a0
          have s1 := (hb5.cell (p := ⟨la.block, la.off + 1, none⟩) l1).trans a1
          have s2 := (hb5.cell (p := ⟨la.block, la.off + 2, none⟩) l1).trans a2
          have s3 := (hb5.cell (p := ⟨la.block, la.off + 3, none⟩) l1).trans a3
          go_wp2_with (at_builtin; refine wpList_push (w0 := w) (cell := p4cell) (y := x) rfl _ _ _ rfl w.heap.size w.heap.size 71 i0 _ 32 Tryz.underlying28 Hi.out Hz0.out Hz1.out Hz2.out rfl (by decide) _ os.length os rfl o5 _ _ rfl _ rfl (p4_one _) (by unfold maxLen; omega) (by omega) B5.size (Nat.le_refl _) B5 ?_; intro v' w' hown' hb' hg')
          go_roundw
          case rel => exact ⟨_, _, _, _, na - 1, nb - 1, us, vs, os ++ [x], rfl, rfl, by first | omega | (simp only [List.length_cons]; omega), by first | omega | (simp only [List.length_cons]; omega), by omega, by omega, by simp only [List.length_append, List.length_cons, List.length_nil]; omega, hb', by rw [List.length_append]; exact hown', HTA.out, HTB.out, HM2⟩
          case measure => simp [lenOf]; omega
        have hgt : 0 < cr := by omega
        have q1 : decide (cr ≤ 0) = false := decide_eq_false (by omega)
        have q2 : decide (0 ≤ cr) = true := decide_eq_true (by omega)
        have HM2 : Hid ((os ++ [y]) ++ M.mrg M.cmp4 (x :: us) vs = M.mrg M.cmp4 xs ys) := Lib.hid (by rw [← HM.out, M.mrg_gt (by rw [HCR.out]; exact hgt)]; simp)
        go_wp2_with fail
        refine wp_region_kept wr.heap.size wr (by kernel_rfl) (by kernel_rfl) (Below.refl _ _) ?_
        repeat (go_big_quiet_step ((go_at_call 47; exact Kept.calls (Nat.le_refl _) (kC.out _))))
        refine wpQuiet_nil ?_
        rintro w5 ⟨⟨_, hb5⟩, rfl⟩
        have B5 := after_ hBr hb5
        have o5 := own_below hown hb5
        have s0 := (hb5.cell (p := lb) l2).trans b0
        have s1 := (hb5.cell (p := ⟨lb.block, lb.off + 1, none⟩) l2).trans b1
        have s2 := (hb5.cell (p := ⟨lb.block, lb.off + 2, none⟩) l2).trans b2
        have s3 := (hb5.cell (p := ⟨lb.block, lb.off + 3, none⟩) l2).trans b3
        go_wp2_with (at_builtin; refine wpList_push (w0 := w) (cell := p4cell) (y := y) rfl _ _ _ rfl w.heap.size w.heap.size 71 i0 _ 32 Tryz.underlying28 Hi.out Hz0.out Hz1.out Hz2.out rfl (by decide) _ os.length os rfl o5 _ _ rfl _ rfl (p4_one _) (by unfold maxLen; omega) (by omega) B5.size (Nat.le_refl _) B5 ?_; intro v' w' hown' hb' hg')
        go_roundw
        case rel => exact ⟨_, _, _, _, na, nb - 1, (x :: us), vs, os ++ [y], rfl, rfl, by first | omega | (simp only [List.length_cons]; omega), by first | omega | (simp only [List.length_cons]; omega), by omega, by omega, by simp only [List.length_append, List.length_cons, List.length_nil]; omega, hb', by rw [List.length_append]; exact hown', hA', HTB.out, HM2⟩
        case measure => simp [lenOf]; omega
end Go.Proofs.YtciolgmljpamlaaGreatDoor
end

section
namespace Go.Proofs.YtciolgmljpamlaaGreatDoor
open Go Go.RowKit
namespace M
theorem strict_eq {α : Type} {r : α → α → Prop} (hi : ∀ x, ¬ r x x) (ht : ∀ {x y z}, r x y → r y z → r x z) : ∀ {a b : List α}, a.Pairwise r → b.Pairwise r → (∀ x, x ∈ a ↔ x ∈ b) → a = b
  | [], [], _, _, _ => rfl
  | [], y :: b, _, _, h => absurd ((h y).2 (by simp)) (by simp)
  | x :: a, [], _, _, h => absurd ((h x).1 (by simp)) (by simp)
  | x :: a, y :: b, h1, h2, h => by
    rw [List.pairwise_cons] at h1 h2
    have hxy : x = y := by
      have hx := (h x).1 (by simp)
      have hy := (h y).2 (by simp)
      rcases List.mem_cons.1 hx with e | e
      · exact e
      · rcases List.mem_cons.1 hy with e2 | e2
        · exact e2.symm
        · exact absurd (ht (h2.1 x e) (h1.1 y e2)) (hi y)
    subst hxy
    rw [strict_eq hi ht h1.2 h2.2 (fun z => ?_)]
    constructor
    · intro hz
      rcases List.mem_cons.1 ((h z).1 (by simp [hz])) with e | e
      · subst e; exact absurd (h1.1 z hz) (hi z)
      · exact e
    · intro hz
      rcases List.mem_cons.1 ((h z).2 (by simp [hz])) with e | e
      · subst e; exact absurd (h2.1 z hz) (hi z)
      · exact e
theorem strict_perm {α : Type} {r : α → α → Prop} (hi : ∀ x, ¬ r x x) (ht : ∀ {x y z}, r x y → r y z → r x z) (htot : ∀ {x y}, ¬ r x y → ¬ r y x → x = y) {a b c : List α} (hp : b.Perm a) (hn : a.Nodup) (hs : b.Pairwise fun x y => ¬ r y x) (hc : c.Pairwise r) (hm : ∀ x, x ∈ a ↔ x ∈ c) : b = c := by
  refine strict_eq hi ht ?_ hc (fun x => (hp.mem_iff).trans (hm x))
  have hbn : b.Nodup := hp.nodup_iff.2 hn
  refine List.Pairwise.imp₂ (R := fun x y => ¬ r y x) (S := fun x y => x ≠ y) ?_ hs hbn
  intro x y h1 h2
  by_cases h : r x y
  · exact h
  · exact absurd (htot h h1) h2
section
variable {α : Type} (id : α → Int) (fb : α → α → Int → Bool) (ls : α → α → Int) (lo hi : Int)
def bpO (s t : α) (o : Int) : List P5 := if fb s t o = true then [⟨id s, id t, o, max lo (lo - o), min hi (hi - o)⟩] else []
def bpT (s t : α) : List P5 := bpO id fb lo hi s t (-1) ++ bpO id fb lo hi s t 0 ++ bpO id fb lo hi s t 1
def bP : List α → List P5
  | [] => []
  | s :: r => r.flatMap (bpT id fb lo hi s) ++ bP r
def ld1 (s t : α) : List P5 := if fb s t 0 = true then [] else if 0 < ls s t then [⟨id s, id t, ls s t, lo, hi⟩] else []
def bL : List α → List P5
  | [] => []
  | s :: r => r.flatMap (fun t => ld1 id fb ls lo hi s t ++ ld1 id fb ls lo hi t s) ++ bL r
def ldN (s t : α) : List P5 := if id s = id t then [] else ld1 id fb ls lo hi s t
def rowL (l : List α) (s : α) : List P5 := l.flatMap (ldN id fb ls lo hi s)
def rL (l : List α) : List P5 := l.flatMap (rowL id fb ls lo hi l)
def cap1 (pp : α → Int) (l : List α) (s : α) : List P4 := if rowL id fb ls lo hi l s = [] then [] else [⟨id s, 10 * pp s / 1000, lo, hi⟩]
def bC (pp : α → Int) (l : List α) : List P4 := l.flatMap (cap1 id fb ls lo hi pp l)
variable {id fb ls lo hi}
theorem mem_bpO {s t : α} {o : Int} {x : P5} : x ∈ bpO id fb lo hi s t o ↔ fb s t o = true ∧ x = ⟨id s, id t, o, max lo (lo - o), min hi (hi - o)⟩ := by
  unfold bpO; split <;> simp_all
theorem mem_bpT {s t : α} {x : P5} : x ∈ bpT id fb lo hi s t ↔ ∃ o : Int, -1 ≤ o ∧ o ≤ 1 ∧ fb s t o = true ∧ x = ⟨id s, id t, o, max lo (lo - o), min hi (hi - o)⟩ := by
  unfold bpT
  rw [List.mem_append, List.mem_append, mem_bpO, mem_bpO, mem_bpO]
  constructor
  · rintro ((h | h) | h)
    · exact ⟨-1, by omega, by omega, h.1, h.2⟩
    · exact ⟨0, by omega, by omega, h.1, h.2⟩
    · exact ⟨1, by omega, by omega, h.1, h.2⟩
  · rintro ⟨o, h1, h2, h3, h4⟩
    rcases (show o = -1 ∨ o = 0 ∨ o = 1 by omega) with e | e | e <;> subst e
    · exact .inl (.inl ⟨h3, h4⟩)
    · exact .inl (.inr ⟨h3, h4⟩)
    · exact .inr ⟨h3, h4⟩
theorem mem_ld1 {s t : α} {x : P5} : x ∈ ld1 id fb ls lo hi s t ↔ fb s t 0 = false ∧ 0 < ls s t ∧ x = ⟨id s, id t, ls s t, lo, hi⟩ := by
  unfold ld1; split
  · simp_all
  · split
    · simp_all
    · simp_all; omega
theorem mem_ldN {s t : α} {x : P5} : x ∈ ldN id fb ls lo hi s t ↔ id s ≠ id t ∧ fb s t 0 = false ∧ 0 < ls s t ∧ x = ⟨id s, id t, ls s t, lo, hi⟩ := by
  unfold ldN; split
  · simp_all
  · rw [mem_ld1]; simp_all
theorem mem_rowL {l : List α} {s : α} {x : P5} : x ∈ rowL id fb ls lo hi l s ↔ ∃ t ∈ l, id s ≠ id t ∧ fb s t 0 = false ∧ 0 < ls s t ∧ x = ⟨id s, id t, ls s t, lo, hi⟩ := by
  unfold rowL; rw [List.mem_flatMap]
  constructor
  · rintro ⟨t, h1, h2⟩; exact ⟨t, h1, mem_ldN.1 h2⟩
  · rintro ⟨t, h1, h2⟩; exact ⟨t, h1, mem_ldN.2 h2⟩
theorem mem_rL {l : List α} {x : P5} : x ∈ rL id fb ls lo hi l ↔ ∃ s ∈ l, ∃ t ∈ l, id s ≠ id t ∧ fb s t 0 = false ∧ 0 < ls s t ∧ x = ⟨id s, id t, ls s t, lo, hi⟩ := by
  unfold rL; rw [List.mem_flatMap]
  constructor
  · rintro ⟨t, h1, h2⟩; exact ⟨t, h1, mem_rowL.1 h2⟩
  · rintro ⟨t, h1, h2⟩; exact ⟨t, h1, mem_rowL.2 h2⟩
theorem mem_bP {x : P5} : ∀ {l : List α}, x ∈ bP id fb lo hi l → ∃ s ∈ l, ∃ t ∈ l, ∃ o : Int, -1 ≤ o ∧ o ≤ 1 ∧ x = ⟨id s, id t, o, max lo (lo - o), min hi (hi - o)⟩
  | [], h => by simp [bP] at h
  | s :: r, h => by
    rw [bP, List.mem_append, List.mem_flatMap] at h
    rcases h with ⟨t, ht, h⟩ | h
    · obtain ⟨o, h1, h2, -, h4⟩ := mem_bpT.1 h
      exact ⟨s, by simp, t, by simp [ht], o, h1, h2, h4⟩
    · obtain ⟨s', h1, t, h2, h3⟩ := mem_bP h
      exact ⟨s', by simp [h1], t, by simp [h2], h3⟩
theorem mem_bL (hs : ∀ s t : α, fb s t 0 = fb t s 0) {x : P5} : ∀ {l : List α}, l.Pairwise (fun s t => id s < id t) → (x ∈ bL id fb ls lo hi l ↔ x ∈ rL id fb ls lo hi l)
  | [], _ => by simp [bL, rL]
  | s :: r, hp => by
    rw [List.pairwise_cons] at hp
    rw [bL, List.mem_append, mem_bL hs hp.2, mem_rL, mem_rL, List.mem_flatMap]
    constructor
    · rintro (⟨t, ht, h⟩ | ⟨s', h1, t, h2, h3⟩)
      · have hlt := hp.1 t ht
        rcases List.mem_append.1 h with h | h
        · exact ⟨s, by simp, t, by simp [ht], by omega, mem_ld1.1 h⟩
        · exact ⟨t, by simp [ht], s, by simp, by omega, mem_ld1.1 h⟩
      · exact ⟨s', by simp [h1], t, by simp [h2], h3⟩
    · rintro ⟨s', h1, t, h2, h3, h4⟩
      rcases List.mem_cons.1 h1 with e1 | h5
      · rw [e1] at h3 h4
        rcases List.mem_cons.1 h2 with e2 | h6
        · rw [e2] at h3; exact absurd rfl h3
        · exact .inl ⟨t, h6, List.mem_append.2 (.inl (mem_ld1.2 h4))⟩
      · rcases List.mem_cons.1 h2 with e2 | h6
        · rw [e2] at h4
          exact .inl ⟨s', h5, List.mem_append.2 (.inr (mem_ld1.2 h4))⟩
        · exact .inr ⟨s', h5, t, h6, h3, h4⟩
theorem ld1_nd (s t : α) : (ld1 id fb ls lo hi s t).Nodup := by
  unfold ld1; (repeat' split) <;> simp
theorem bL_nd : ∀ {l : List α}, l.Pairwise (fun s t => id s < id t) → (bL id fb ls lo hi l).Nodup
  | [], _ => List.nodup_nil
  | s :: r, hp => by
    rw [List.pairwise_cons] at hp
    rw [bL, List.nodup_append]
    have hin : ∀ {l : List α} {x : P5}, x ∈ bL id fb ls lo hi l → ∃ u ∈ l, ∃ v ∈ l, x.a = id u ∧ x.b = id v := by
      intro l
      induction l with
      | nil => intro x h; simp [bL] at h
      | cons a l ih =>
        intro x h
        rw [bL, List.mem_append, List.mem_flatMap] at h
        rcases h with ⟨t, ht, h⟩ | h
        · rcases List.mem_append.1 h with h | h
          · obtain ⟨-, -, e⟩ := mem_ld1.1 h
            exact ⟨a, by simp, t, by simp [ht], by rw [e], by rw [e]⟩
          · obtain ⟨-, -, e⟩ := mem_ld1.1 h
            exact ⟨t, by simp [ht], a, by simp, by rw [e], by rw [e]⟩
        · obtain ⟨u, hu, v, hv, h2⟩ := ih h
          exact ⟨u, by simp [hu], v, by simp [hv], h2⟩
    refine ⟨?_, bL_nd hp.2, ?_⟩
    · unfold List.Nodup
      rw [List.pairwise_flatMap]
      refine ⟨fun t ht => ?_, hp.2.imp ?_⟩
      · have hlt := hp.1 t ht
        have hnd := List.nodup_append.2 ⟨ld1_nd (id := id) (fb := fb) (ls := ls) (lo := lo) (hi := hi) s t, ld1_nd (id := id) (fb := fb) (ls := ls) (lo := lo) (hi := hi) t s, fun x hx y hy e => by
          subst e
          obtain ⟨-, -, e1⟩ := mem_ld1.1 hx
          obtain ⟨-, -, e2⟩ := mem_ld1.1 hy
          rw [e1] at e2; injection e2; omega⟩
        exact hnd
      · intro t u htu x hx y hy e
        subst e
        rcases List.mem_append.1 hx with h | h <;> rcases List.mem_append.1 hy with h' | h' <;> (obtain ⟨-, -, e1⟩ := mem_ld1.1 h; obtain ⟨-, -, e2⟩ := mem_ld1.1 h'; rw [e1] at e2; injection e2; omega)
    · intro x hx y hy e
      subst e
      obtain ⟨t, ht, h⟩ := List.mem_flatMap.1 hx
      have hlt := hp.1 t ht
      obtain ⟨u, hu, v, hv, h1, h2⟩ := hin hy
      have h3 := hp.1 u hu; have h4 := hp.1 v hv
      rcases List.mem_append.1 h with h | h <;> (obtain ⟨-, -, e1⟩ := mem_ld1.1 h; rw [e1] at h1 h2; simp only at h1 h2; omega)
abbrev lt5 (p q : P5) : Prop := lessI p.l q.l = true
theorem lt5_ab {p q : P5} (h : p.a < q.a ∨ (p.a = q.a ∧ p.b < q.b)) : lt5 p q := by
  unfold lt5 P5.l
  rcases h with h | ⟨h, h2⟩
  · rw [lessI, if_neg (by omega), decide_eq_true_eq]; exact h
  · rw [lessI, if_pos h, lessI, if_neg (by omega), decide_eq_true_eq]; exact h2
theorem lt5_c {p q : P5} (h : p.a = q.a) (h2 : p.b = q.b) (h3 : p.c < q.c) : lt5 p q := by
  unfold lt5 P5.l
  rw [lessI, if_pos h, lessI, if_pos h2, lessI, if_neg (by omega), decide_eq_true_eq]; exact h3
theorem lt5_irr (p : P5) : ¬ lt5 p p := by unfold lt5; rw [lessI_irrefl]; decide
theorem lt5_tr {p q r : P5} (h : lt5 p q) (h2 : lt5 q r) : lt5 p r := lessI_trans h h2
theorem lt5_tot {p q : P5} (h : ¬ lt5 p q) (h2 : ¬ lt5 q p) : p = q := p5_inj (lessI_total rfl (by simpa using h) (by simpa using h2))
theorem bpO_st (s t : α) (o : Int) : (bpO id fb lo hi s t o).Pairwise lt5 := by unfold bpO; split <;> simp
theorem bP_st : ∀ {l : List α}, l.Pairwise (fun s t => id s < id t) → (bP id fb lo hi l).Pairwise lt5
  | [], _ => List.Pairwise.nil
  | s :: r, hp => by
    rw [List.pairwise_cons] at hp
    rw [bP, List.pairwise_append]
    refine ⟨?_, bP_st hp.2, ?_⟩
    · rw [List.pairwise_flatMap]
      refine ⟨fun t ht => ?_, hp.2.imp ?_⟩
      · unfold bpT
        rw [List.pairwise_append, List.pairwise_append]
        refine ⟨⟨bpO_st .., bpO_st .., fun x hx y hy => ?_⟩, bpO_st .., fun x hx y hy => ?_⟩
        · obtain ⟨-, rfl⟩ := mem_bpO.1 hx; obtain ⟨-, rfl⟩ := mem_bpO.1 hy
          exact lt5_c rfl rfl (by simp)
        · obtain ⟨-, rfl⟩ := mem_bpO.1 hy
          rcases List.mem_append.1 hx with hx | hx <;> (obtain ⟨-, rfl⟩ := mem_bpO.1 hx; exact lt5_c rfl rfl (by simp))
      · intro t u htu x hx y hy
        obtain ⟨o, -, -, -, rfl⟩ := mem_bpT.1 hx
        obtain ⟨o', -, -, -, rfl⟩ := mem_bpT.1 hy
        exact lt5_ab (.inr ⟨rfl, htu⟩)
    · intro x hx y hy
      obtain ⟨t, ht, h⟩ := List.mem_flatMap.1 hx
      obtain ⟨o, -, -, -, rfl⟩ := mem_bpT.1 h
      obtain ⟨u, hu, v, hv, o', -, -, rfl⟩ := mem_bP hy
      exact lt5_ab (.inl (hp.1 u hu))
theorem rL_st {l : List α} (hp : l.Pairwise (fun s t => id s < id t)) : (rL id fb ls lo hi l).Pairwise lt5 := by
  unfold rL
  rw [List.pairwise_flatMap]
  refine ⟨fun s _ => ?_, hp.imp ?_⟩
  · unfold rowL
    rw [List.pairwise_flatMap]
    refine ⟨fun t _ => ?_, hp.imp ?_⟩
    · unfold ldN ld1; (repeat' split) <;> simp
    · intro t u htu x hx y hy
      obtain ⟨-, -, -, rfl⟩ := mem_ldN.1 hx
      obtain ⟨-, -, -, rfl⟩ := mem_ldN.1 hy
      exact lt5_ab (.inr ⟨rfl, htu⟩)
  · intro s u hsu x hx y hy
    obtain ⟨t, -, -, -, -, rfl⟩ := mem_rowL.1 hx
    obtain ⟨t', -, -, -, -, rfl⟩ := mem_rowL.1 hy
    exact lt5_ab (.inl hsu)
theorem bL_sorted (hs : ∀ s t : α, fb s t 0 = fb t s 0) {l : List α} (hp : l.Pairwise (fun s t => id s < id t)) {d : List P5} (h1 : d.Perm (bL id fb ls lo hi l)) (h2 : d.Pairwise fun x y => ¬ lt5 y x) : d = rL id fb ls lo hi l :=
  strict_perm lt5_irr lt5_tr lt5_tot h1 (bL_nd hp) h2 (rL_st hp) (fun _ => mem_bL hs hp)
theorem bP_nd {l : List α} (hp : l.Pairwise (fun s t => id s < id t)) : (bP id fb lo hi l).Nodup := (bP_st hp).imp fun h e => by subst e; exact lt5_irr _ h
theorem bP_sorted {l : List α} (hp : l.Pairwise (fun s t => id s < id t)) {d : List P5} (h1 : d.Perm (bP id fb lo hi l)) (h2 : d.Pairwise fun x y => ¬ lt5 y x) : d = bP id fb lo hi l :=
  strict_perm lt5_irr lt5_tr lt5_tot h1 (bP_nd hp) h2 (bP_st hp) (fun _ => Iff.rfl)
theorem rL_any {l : List α} (hp : l.Pairwise (fun s t => id s < id t)) {s : α} (hs : s ∈ l) : ((rL id fb ls lo hi l).any fun p => decide (p.a = id s)) = decide (rowL id fb ls lo hi l s ≠ []) := by
  rw [Bool.eq_iff_iff, List.any_eq_true, decide_eq_true_eq]
  constructor
  · rintro ⟨x, hx, h2⟩
    rw [decide_eq_true_eq] at h2
    obtain ⟨u, hu, t, ht, h3⟩ := mem_rL.1 hx
    have e : id u = id s := by rw [h3.2.2.2] at h2; exact h2
    have : u = s := by
      by_cases h : u = s
      · exact h
      · have hne : l.Pairwise (fun s t => id s ≠ id t) := hp.imp (fun h => by omega)
        have := (List.pairwise_iff_getElem.1 hp)
        obtain ⟨i, hi, rfl⟩ := List.getElem_of_mem hu
        obtain ⟨j, hj, rfl⟩ := List.getElem_of_mem hs
        rcases Nat.lt_trichotomy i j with h | h | h
        · have := this i j hi hj h; omega
        · subst h; rfl
        · have := this j i hj hi h; omega
    subst this
    exact List.ne_nil_of_mem (mem_rowL.2 ⟨t, ht, h3⟩)
  · intro h
    obtain ⟨x, hx⟩ := List.exists_mem_of_ne_nil _ h
    refine ⟨x, List.mem_flatMap.2 ⟨s, hs, hx⟩, ?_⟩
    obtain ⟨t, ht, h3⟩ := mem_rowL.1 hx
    rw [h3.2.2.2]; simp
theorem id_inj {l : List α} (hp : l.Pairwise (fun s t => id s < id t)) {s u : α} (hs : s ∈ l) (hu : u ∈ l) (e : id s = id u) : s = u := by
  have h := List.pairwise_iff_getElem.1 hp
  obtain ⟨i, hi, rfl⟩ := List.getElem_of_mem hu
  obtain ⟨j, hj, rfl⟩ := List.getElem_of_mem hs
  rcases Nat.lt_trichotomy i j with h1 | h1 | h1
  · have := h i j hi hj h1; omega
  · subst h1; rfl
  · have := h j i hj hi h1; omega
theorem mem_bP_iff {x : P5} : ∀ {l : List α}, l.Pairwise (fun s t => id s < id t) → (x ∈ bP id fb lo hi l ↔ ∃ s ∈ l, ∃ t ∈ l, id s < id t ∧ ∃ o : Int, -1 ≤ o ∧ o ≤ 1 ∧ fb s t o = true ∧ x = ⟨id s, id t, o, max lo (lo - o), min hi (hi - o)⟩)
  | [], _ => by simp [bP]
  | s :: r, hp => by
    rw [List.pairwise_cons] at hp
    rw [bP, List.mem_append, List.mem_flatMap, mem_bP_iff hp.2]
    constructor
    · rintro (⟨t, ht, h⟩ | ⟨s', h1, t, h2, h3⟩)
      · exact ⟨s, by simp, t, by simp [ht], hp.1 t ht, mem_bpT.1 h⟩
      · exact ⟨s', by simp [h1], t, by simp [h2], h3⟩
    · rintro ⟨s', h1, t, h2, h3, h4⟩
      rcases List.mem_cons.1 h1 with e1 | h5
      · rw [e1] at h3 h4
        rcases List.mem_cons.1 h2 with e2 | h6
        · rw [e2] at h3; omega
        · exact .inl ⟨t, h6, mem_bpT.2 h4⟩
      · rcases List.mem_cons.1 h2 with e2 | h6
        · rw [e2] at h3; have := hp.1 s' h5; omega
        · exact .inr ⟨s', h5, t, h6, h3, h4⟩
def inIds (id : α → Int) (r : List α) (n : Int) : Bool := r.any fun s => decide (id s = n)
theorem inIds_iff {r : List α} {n : Int} : inIds id r n = true ↔ ∃ s ∈ r, id s = n := by
  unfold inIds; rw [List.any_eq_true]; simp
theorem inIds_mem {l r : List α} (hp : l.Pairwise (fun s t => id s < id t)) (hr : r.Sublist l) {s : α} (hs : s ∈ l) : inIds id r (id s) = true ↔ s ∈ r := by
  rw [inIds_iff]
  constructor
  · rintro ⟨u, hu, e⟩
    rw [← id_inj hp (hr.subset hu) hs e]; exact hu
  · intro h; exact ⟨s, h, rfl⟩
theorem bP_sub {l r : List α} (hp : l.Pairwise (fun s t => id s < id t)) (hr : r.Sublist l) : bP id fb lo hi r = (bP id fb lo hi l).filter fun p => inIds id r p.a && inIds id r p.b := by
  have hp' := hp.sublist hr
  refine strict_eq lt5_irr lt5_tr (bP_st hp') ((bP_st hp).filter _) fun x => ?_
  rw [List.mem_filter, mem_bP_iff hp, mem_bP_iff hp', Bool.and_eq_true]
  constructor
  · rintro ⟨s, h1, t, h2, h3, o, h4, h5, h6, rfl⟩
    exact ⟨⟨s, hr.subset h1, t, hr.subset h2, h3, o, h4, h5, h6, rfl⟩, (inIds_mem hp hr (hr.subset h1)).2 h1, (inIds_mem hp hr (hr.subset h2)).2 h2⟩
  · rintro ⟨⟨s, h1, t, h2, h3, o, h4, h5, h6, rfl⟩, h7, h8⟩
    exact ⟨s, (inIds_mem hp hr h1).1 h7, t, (inIds_mem hp hr h2).1 h8, h3, o, h4, h5, h6, rfl⟩
theorem rL_sub {l r : List α} (hp : l.Pairwise (fun s t => id s < id t)) (hr : r.Sublist l) : rL id fb ls lo hi r = (rL id fb ls lo hi l).filter fun p => inIds id r p.a && inIds id r p.b := by
  have hp' := hp.sublist hr
  refine strict_eq lt5_irr lt5_tr (rL_st hp') ((rL_st hp).filter _) fun x => ?_
  rw [List.mem_filter, mem_rL, mem_rL, Bool.and_eq_true]
  constructor
  · rintro ⟨s, h1, t, h2, h3, h5, h6, rfl⟩
    exact ⟨⟨s, hr.subset h1, t, hr.subset h2, h3, h5, h6, rfl⟩, (inIds_mem hp hr (hr.subset h1)).2 h1, (inIds_mem hp hr (hr.subset h2)).2 h2⟩
  · rintro ⟨⟨s, h1, t, h2, h3, h5, h6, rfl⟩, h7, h8⟩
    exact ⟨s, (inIds_mem hp hr h1).1 h7, t, (inIds_mem hp hr h2).1 h8, h3, h5, h6, rfl⟩
abbrev lt4 (p q : P4) : Prop := lessI p.l q.l = true
theorem lt4_a {p q : P4} (h : p.a < q.a) : lt4 p q := by
  unfold lt4 P4.l
  rw [lessI, if_neg (by omega), decide_eq_true_eq]; exact h
theorem lt4_irr (p : P4) : ¬ lt4 p p := by unfold lt4; rw [lessI_irrefl]; decide
theorem lt4_tr {p q r : P4} (h : lt4 p q) (h2 : lt4 q r) : lt4 p r := lessI_trans h h2
theorem lt4_tot {p q : P4} (h : ¬ lt4 p q) (h2 : ¬ lt4 q p) : p = q := p4_inj (lessI_total rfl (by simpa using h) (by simpa using h2))
variable {pp : α → Int}
theorem mem_bC {l : List α} {x : P4} : x ∈ bC id fb ls lo hi pp l ↔ ∃ s ∈ l, rowL id fb ls lo hi l s ≠ [] ∧ x = ⟨id s, 10 * pp s / 1000, lo, hi⟩ := by
  unfold bC
  rw [List.mem_flatMap]
  constructor
  · rintro ⟨s, hs, h⟩
    unfold cap1 at h; split at h
    · simp at h
    · exact ⟨s, hs, by assumption, by simpa using h⟩
  · rintro ⟨s, hs, h, e⟩
    refine ⟨s, hs, ?_⟩
    unfold cap1; rw [if_neg h, e]; simp
theorem bC_st {l : List α} (hp : l.Pairwise (fun s t => id s < id t)) : (bC id fb ls lo hi pp l).Pairwise lt4 := by
  unfold bC
  rw [List.pairwise_flatMap]
  refine ⟨fun s _ => ?_, hp.imp ?_⟩
  · unfold cap1; split <;> simp
  · intro s u hsu x hx y hy
    have h : ∀ {s : α} {x : P4}, x ∈ cap1 id fb ls lo hi pp l s → x.a = id s := by
      intro s x h
      unfold cap1 at h; split at h
      · simp at h
      · obtain rfl := List.mem_singleton.1 h; rfl
    exact lt4_a (by rw [h hx, h hy]; exact hsu)
def loaded (ld : List P5) (n : Int) : Bool := ld.any fun p => decide (p.a = n)
theorem bC_sub {l r : List α} (hp : l.Pairwise (fun s t => id s < id t)) (hr : r.Sublist l) : bC id fb ls lo hi pp r = (bC id fb ls lo hi pp l).filter fun c => loaded (rL id fb ls lo hi r) c.a := by
  have hp' := hp.sublist hr
  have key : ∀ {s : α}, s ∈ l → (loaded (rL id fb ls lo hi r) (id s) = true ↔ s ∈ r ∧ rowL id fb ls lo hi r s ≠ []) := by
    intro s hs
    constructor
    · intro h
      unfold loaded at h
      obtain ⟨x, hx, e⟩ := List.any_eq_true.1 h
      obtain ⟨u, hu, t, ht, h3⟩ := mem_rL.1 hx
      rw [h3.2.2.2] at e
      have e2 : id u = id s := by simpa using e
      have e3 := id_inj hp (hr.subset hu) hs e2
      rw [e3] at hu h3
      exact ⟨hu, List.ne_nil_of_mem (mem_rowL.2 ⟨t, ht, h3⟩)⟩
    · rintro ⟨h1, h2⟩
      have := rL_any (fb := fb) (ls := ls) (lo := lo) (hi := hi) hp' h1
      unfold loaded
      rw [this, decide_eq_true_eq]; exact h2
  refine strict_eq lt4_irr lt4_tr (bC_st hp') ((bC_st hp).filter _) fun x => ?_
  rw [List.mem_filter, mem_bC, mem_bC]
  constructor
  · rintro ⟨s, h1, h2, rfl⟩
    have h3 := hr.subset h1
    refine ⟨⟨s, h3, ?_, rfl⟩, (key h3).2 ⟨h1, h2⟩⟩
    obtain ⟨x, hx⟩ := List.exists_mem_of_ne_nil _ h2
    obtain ⟨t, ht, h4⟩ := mem_rowL.1 hx
    exact List.ne_nil_of_mem (mem_rowL.2 ⟨t, hr.subset ht, h4⟩)
  · rintro ⟨⟨s, h1, h2, rfl⟩, h3⟩
    obtain ⟨h4, h5⟩ := (key h1).1 h3
    exact ⟨s, h4, h5, rfl⟩
theorem len_flatMap_le {β : Type} {f : α → List β} {c : Nat} : ∀ {l : List α}, (∀ s ∈ l, (f s).length ≤ c) → (l.flatMap f).length ≤ l.length * c
  | [], _ => by simp
  | s :: r, h => by
    rw [List.flatMap_cons, List.length_append, List.length_cons, Nat.add_mul]
    have := len_flatMap_le (l := r) (fun s hs => h s (by simp [hs])); have := h s (by simp); omega
theorem bpT_len (s t : α) : (bpT id fb lo hi s t).length ≤ 3 := by
  unfold bpT bpO
  rw [List.length_append, List.length_append]
  (repeat' split) <;> simp
theorem bP_len : ∀ l : List α, (bP id fb lo hi l).length ≤ l.length * (l.length * 3)
  | [] => by simp [bP]
  | s :: r => by
    rw [bP, List.length_append]
    have h1 := len_flatMap_le (f := bpT id fb lo hi s) (c := 3) (l := r) (fun t _ => bpT_len s t)
    have h2 := bP_len r
    have h3 : r.length * (r.length * 3) ≤ r.length * ((r.length + 1) * 3) := Nat.mul_le_mul_left _ (by omega)
    have h4 : (r.length + 1) * ((r.length + 1) * 3) = r.length * ((r.length + 1) * 3) + (r.length + 1) * 3 := by rw [Nat.add_mul, Nat.one_mul]
    rw [List.length_cons]
    omega
theorem rowL_len (l : List α) (s : α) : (rowL id fb ls lo hi l s).length ≤ l.length := by
  have := len_flatMap_le (f := ldN id fb ls lo hi s) (c := 1) (l := l) (fun t _ => by unfold ldN ld1; (repeat' split) <;> simp)
  unfold rowL; omega
theorem rL_len (l : List α) : (rL id fb ls lo hi l).length ≤ l.length * l.length := len_flatMap_le (fun s _ => rowL_len l s)
theorem bL_len : ∀ l : List α, (bL id fb ls lo hi l).length ≤ l.length * (l.length * 2)
  | [] => by simp [bL]
  | s :: r => by
    rw [bL, List.length_append]
    have h1 := len_flatMap_le (f := fun t => ld1 id fb ls lo hi s t ++ ld1 id fb ls lo hi t s) (c := 2) (l := r) (fun t _ => by rw [List.length_append]; unfold ld1; (repeat' split) <;> simp)
    have h2 := bL_len r
    have h3 : r.length * (r.length * 2) ≤ r.length * ((r.length + 1) * 2) := Nat.mul_le_mul_left _ (by omega)
    have h4 : (r.length + 1) * ((r.length + 1) * 2) = r.length * ((r.length + 1) * 2) + (r.length + 1) * 2 := by rw [Nat.add_mul, Nat.one_mul]
    rw [List.length_cons]
    omega
theorem bC_len (l : List α) : (bC id fb ls lo hi pp l).length ≤ l.length := by
  have := len_flatMap_le (f := cap1 id fb ls lo hi pp l) (c := 1) (l := l) (fun t _ => by unfold cap1; split <;> simp)
  unfold bC; omega
theorem vlist_of {β : Type} {most : Nat} {v : β → Bool} {cf : β → β → Int} {l : List β} (h1 : l.length ≤ most) (h2 : ∀ x ∈ l, v x = true) (h3 : l.Pairwise fun x y => cf x y < 0) : vlist most v cf l = true := by
  unfold vlist vscan
  rw [Bool.and_eq_true, List.all_eq_true]
  refine ⟨decide_eq_true h1, fun k hk => ?_⟩
  have hk' : k < l.length := by simpa using hk
  rw [vstep_at hk', Bool.and_eq_true]
  refine ⟨h2 _ (List.getElem_mem hk'), ?_⟩
  cases k with
  | zero => rfl
  | succ j => exact decide_eq_true ((List.pairwise_iff_getElem.1 h3) j (j + 1) (by omega) hk' (by omega))
theorem of_vlist {β : Type} {most : Nat} {v : β → Bool} {cf : β → β → Int} (ht : ∀ {x y z}, cf x y < 0 → cf y z < 0 → cf x z < 0) {l : List β} (h : vlist most v cf l = true) : l.length ≤ most ∧ (∀ x ∈ l, v x = true) ∧ l.Pairwise fun x y => cf x y < 0 := by
  unfold vlist vscan at h
  rw [Bool.and_eq_true, List.all_eq_true] at h
  have hs : ∀ k (hk : k < l.length), v l[k] = true ∧ ∀ j, (e : k = j + 1) → cf (l[j]'(by omega)) l[k] < 0 := fun k hk => by
    have := h.2 k (by simpa using hk)
    rw [vstep_at hk, Bool.and_eq_true] at this
    refine ⟨this.1, fun j e => ?_⟩
    subst e
    simpa using this.2
  refine ⟨of_decide_eq_true h.1, fun x hx => ?_, ?_⟩
  · obtain ⟨k, hk, rfl⟩ := List.getElem_of_mem hx
    exact (hs k hk).1
  · rw [List.pairwise_iff_getElem]
    intro i j hi hj hij
    induction j with
    | zero => omega
    | succ j ih =>
      have h1 := (hs (j + 1) hj).2 j rfl
      by_cases e : i = j
      · subst e; exact h1
      · exact ht (ih (by omega) (by omega)) h1
theorem lt5_cmp {p q : P5} : lt5 p q ↔ cmp5 p q < 0 := by
  have := cmp5_less p q
  unfold lt5; rw [← this, decide_eq_true_eq]
theorem lt4_cmp {p q : P4} : lt4 p q ↔ cmp4 p q < 0 := by
  have := cmp4_less p q
  unfold lt4; rw [← this, decide_eq_true_eq]
theorem build_valid {l : List α} (hp : l.Pairwise (fun s t => id s < id t)) (hid : ∀ s ∈ l, 0 ≤ id s ∧ id s ≤ 511) (hn : l.length ≤ 4) (hr : 2 ≤ lo ∧ lo < hi ∧ hi ≤ 51) (hfb : ∀ s ∈ l, ∀ t ∈ l, fb s t 0 = false → 1000 * ls s t ≤ 5 * pp s) (hpp : ∀ s ∈ l, 0 ≤ pp s ∧ pp s ≤ 100000000000) :
    rvalid (bP id fb lo hi l) (rL id fb ls lo hi l) (bC id fb ls lo hi pp l) = true := by
  have m1 : l.length * l.length ≤ 16 := Nat.mul_le_mul hn hn
  have m2 : l.length * (l.length * 3) ≤ 48 := Nat.mul_le_mul hn (show l.length * 3 ≤ 12 by omega)
  have l1 := bP_len (id := id) (fb := fb) (lo := lo) (hi := hi) l
  have l2 := rL_len (id := id) (fb := fb) (ls := ls) (lo := lo) (hi := hi) l
  have l3 := bC_len (id := id) (fb := fb) (ls := ls) (lo := lo) (hi := hi) (pp := pp) l
  unfold rvalid
  rw [Bool.and_eq_true, Bool.and_eq_true]
  refine ⟨⟨vlist_of (by omega) (fun x hx => ?_) ((bP_st hp).imp lt5_cmp.1), vlist_of (by omega) (fun x hx => ?_) ((rL_st hp).imp lt5_cmp.1)⟩, vlist_of (by omega) (fun x hx => ?_) ((bC_st hp).imp lt4_cmp.1)⟩
  · obtain ⟨s, h1, t, h2, h3, o, h4, h5, h6, rfl⟩ := (mem_bP_iff hp).1 hx
    have := hid s h1; have := hid t h2
    simp only [vPair, isIn16, rng, Bool.and_eq_true, decide_eq_true_eq]
    omega
  · obtain ⟨s, h1, t, h2, h3, h4, h5, rfl⟩ := mem_rL.1 hx
    have := hid s h1; have := hid t h2; have := hfb s h1 t h2 h4; have := hpp s h1
    simp only [vLoad, isIn16, rng, Bool.and_eq_true, decide_eq_true_eq]
    omega
  · obtain ⟨s, h1, h2, rfl⟩ := mem_bC.1 hx
    have := hid s h1; have := hpp s h1
    simp only [vCap, isIn16, rng, Bool.and_eq_true, decide_eq_true_eq]
    omega
theorem build_cap {l : List α} (hp : l.Pairwise (fun s t => id s < id t)) (hfb : ∀ s ∈ l, ∀ t ∈ l, fb s t 0 = false → 1000 * ls s t ≤ 5 * pp s) {c : P4} {p : P5} (hc : c ∈ bC id fb ls lo hi pp l) (hq : p ∈ rL id fb ls lo hi l) (e : p.a = c.a) : 2 * p.c ≤ c.b := by
  obtain ⟨s, h1, -, rfl⟩ := mem_bC.1 hc
  obtain ⟨u, h2, t, h3, h4, h5, h6, rfl⟩ := mem_rL.1 hq
  have e2 : id u = id s := e
  have e3 := id_inj hp h2 h1 e2
  have := hfb u h2 t h3 h5
  rw [e3] at this ⊢
  simp only
  omega
end
structure OrdC {β : Type} (cf : β → β → Int) : Prop where
  zero : ∀ x y, cf x y = 0 ↔ x = y
  flip : ∀ x y, 0 < cf x y ↔ cf y x < 0
  tr : ∀ {x y z}, cf x y < 0 → cf y z < 0 → cf x z < 0
theorem cmp5_ord : OrdC cmp5 := by
  refine ⟨fun x y => cmp5_zero, fun x y => ?_, fun h1 h2 => lt5_cmp.1 (lt5_tr (lt5_cmp.2 h1) (lt5_cmp.2 h2))⟩
  rw [← lt5_cmp]
  constructor
  · intro h
    by_cases h2 : lt5 y x
    · exact h2
    · have := lt5_tot (p := x) (q := y) (fun h3 => by rw [lt5_cmp] at h3; omega) h2
      have := cmp5_zero.2 this; omega
  · intro h
    have h1 : ¬ cmp5 x y < 0 := fun h3 => lt5_irr _ (lt5_tr (lt5_cmp.2 h3) h)
    have h2 : ¬ cmp5 x y = 0 := fun h3 => by rw [cmp5_zero] at h3; subst h3; exact lt5_irr _ h
    omega
theorem cmp4_ord : OrdC cmp4 := by
  refine ⟨fun x y => cmp4_zero, fun x y => ?_, fun h1 h2 => lt4_cmp.1 (lt4_tr (lt4_cmp.2 h1) (lt4_cmp.2 h2))⟩
  rw [← lt4_cmp]
  constructor
  · intro h
    by_cases h2 : lt4 y x
    · exact h2
    · have := lt4_tot (p := x) (q := y) (fun h3 => by rw [lt4_cmp] at h3; omega) h2
      have := cmp4_zero.2 this; omega
  · intro h
    have h1 : ¬ cmp4 x y < 0 := fun h3 => lt4_irr _ (lt4_tr (lt4_cmp.2 h3) h)
    have h2 : ¬ cmp4 x y = 0 := fun h3 => by rw [cmp4_zero] at h3; subst h3; exact lt4_irr _ h
    omega
section
variable {β : Type} {cf : β → β → Int}
theorem mem_mrg (ho : OrdC cf) {x : β} : ∀ a b : List β, x ∈ mrg cf a b ↔ x ∈ a ∨ x ∈ b
  | [], b => by rw [mrg_nil]; simp
  | y :: a, [] => by rw [mrg_nil2]; simp
  | y :: a, z :: b => by
    by_cases h1 : cf y z < 0
    · rw [mrg_lt h1, List.mem_cons, mem_mrg ho a (z :: b)]; simp [or_assoc]
    · by_cases h2 : cf y z = 0
      · have := (ho.zero y z).1 h2
        subst this
        rw [mrg_eq h2, List.mem_cons, mem_mrg ho a b]
        simp only [List.mem_cons]
        constructor
        · rintro (h | h | h) <;> simp [h]
        · rintro ((h | h) | (h | h)) <;> simp [h]
      · rw [mrg_gt (by omega), List.mem_cons, mem_mrg ho (y :: a) b]
        simp only [List.mem_cons]
        constructor
        · rintro (h | h | h)
          · simp [h]
          · exact .inl h
          · simp [h]
        · rintro (h | h | h)
          · exact .inr (.inl h)
          · simp [h]
          · simp [h]
termination_by a b => a.length + b.length
theorem mrg_st (ho : OrdC cf) : ∀ a b : List β, a.Pairwise (fun x y => cf x y < 0) → b.Pairwise (fun x y => cf x y < 0) → (mrg cf a b).Pairwise (fun x y => cf x y < 0)
  | [], b, _, hb => by rw [mrg_nil]; exact hb
  | y :: a, [], ha, _ => by rw [mrg_nil2]; exact ha
  | y :: a, z :: b, ha, hb => by
    have ha' := List.pairwise_cons.1 ha
    have hb' := List.pairwise_cons.1 hb
    by_cases h1 : cf y z < 0
    · rw [mrg_lt h1, List.pairwise_cons]
      refine ⟨fun x hx => ?_, mrg_st ho a (z :: b) ha'.2 hb⟩
      rcases (mem_mrg ho _ _).1 hx with h | h
      · exact ha'.1 x h
      · rcases List.mem_cons.1 h with e | h
        · subst e; exact h1
        · exact ho.tr h1 (hb'.1 x h)
    · by_cases h2 : cf y z = 0
      · rw [mrg_eq h2, List.pairwise_cons]
        refine ⟨fun x hx => ?_, mrg_st ho a b ha'.2 hb'.2⟩
        rcases (mem_mrg ho _ _).1 hx with h | h
        · exact ha'.1 x h
        · rw [(ho.zero y z).1 h2]; exact hb'.1 x h
      · have h3 : cf z y < 0 := (ho.flip y z).1 (by omega)
        rw [mrg_gt (by omega), List.pairwise_cons]
        refine ⟨fun x hx => ?_, mrg_st ho (y :: a) b ha hb'.2⟩
        rcases (mem_mrg ho _ _).1 hx with h | h
        · rcases List.mem_cons.1 h with e | h
          · subst e; exact h3
          · exact ho.tr h3 (ha'.1 x h)
        · exact hb'.1 x h
termination_by a b => a.length + b.length
theorem of_vl (ho : OrdC cf) {m : Nat} {v : β → Bool} {l : List β} (h : vlist m v cf l = true) : l.length ≤ m ∧ (∀ x ∈ l, v x = true) ∧ l.Pairwise fun x y => cf x y < 0 := by
  refine of_vlist (most := m) (v := v) (cf := cf) (l := l) ?_ h
  intro x y z h1 h2
  exact ho.tr h1 h2
theorem mrg_valid (ho : OrdC cf) {m n : Nat} {v : β → Bool} {a b : List β} (ha : vlist m v cf a = true) (hb : vlist m v cf b = true) (hl : (mrg cf a b).length ≤ n) : vlist n v cf (mrg cf a b) = true := by
  have h1 := of_vl ho ha
  have h2 := of_vl ho hb
  refine vlist_of hl (fun x hx => ?_) (mrg_st ho _ _ h1.2.2 h2.2.2)
  rcases (mem_mrg ho _ _).1 hx with h | h
  · exact h1.2.1 x h
  · exact h2.2.1 x h
end
def joinR (a1 : List P5) (a2 : List P5) (a3 : List P4) (b1 : List P5) (b2 : List P5) (b3 : List P4) : (List P5 × List P5 × List P4) × Int :=
  if rvalid a1 a2 a3 = true ∧ rvalid b1 b2 b3 = true then
    if 4096 < (mrg cmp5 a1 b1).length ∨ 1024 < (mrg cmp5 a2 b2).length ∨ 1024 < (mrg cmp4 a3 b3).length then (([], [], []), 7)
    else ((mrg cmp5 a1 b1, mrg cmp5 a2 b2, mrg cmp4 a3 b3), 0)
  else (([], [], []), 2)
theorem rvalid_and {a : List P5} {b : List P5} {c : List P4} : rvalid a b c = true ↔ vlist 4096 vPair cmp5 a = true ∧ vlist 1024 vLoad cmp5 b = true ∧ vlist 1024 vCap cmp4 c = true := by
  unfold rvalid; rw [Bool.and_eq_true, Bool.and_eq_true, and_assoc]
theorem mrg_rvalid {a1 : List P5} {a2 : List P5} {a3 : List P4} {b1 : List P5} {b2 : List P5} {b3 : List P4} (ha : rvalid a1 a2 a3 = true) (hb : rvalid b1 b2 b3 = true) :
    rvalid (mrg cmp5 a1 b1) (mrg cmp5 a2 b2) (mrg cmp4 a3 b3) = decide (¬ (4096 < (mrg cmp5 a1 b1).length ∨ 1024 < (mrg cmp5 a2 b2).length ∨ 1024 < (mrg cmp4 a3 b3).length)) := by
  rw [Bool.eq_iff_iff, decide_eq_true_eq, rvalid_and]
  obtain ⟨p1, p2, p3⟩ := rvalid_and.1 ha
  obtain ⟨q1, q2, q3⟩ := rvalid_and.1 hb
  constructor
  · rintro ⟨h1, h2, h3⟩
    have := (of_vl cmp5_ord h1).1; have := (of_vl cmp5_ord h2).1; have := (of_vl cmp4_ord h3).1
    omega
  · intro h
    exact ⟨mrg_valid cmp5_ord p1 q1 (by omega), mrg_valid cmp5_ord p2 q2 (by omega), mrg_valid cmp4_ord p3 q3 (by omega)⟩
theorem joinR_of {a1 : List P5} {a2 : List P5} {a3 : List P4} {b1 : List P5} {b2 : List P5} {b3 : List P4} (ha : rvalid a1 a2 a3 = true) (hb : rvalid b1 b2 b3 = true) (h : rvalid (mrg cmp5 a1 b1) (mrg cmp5 a2 b2) (mrg cmp4 a3 b3) = true) : joinR a1 a2 a3 b1 b2 b3 = ((mrg cmp5 a1 b1, mrg cmp5 a2 b2, mrg cmp4 a3 b3), 0) := by
  rw [mrg_rvalid ha hb, decide_eq_true_eq] at h
  unfold joinR; rw [if_pos ⟨ha, hb⟩, if_neg h]
end M
end Go.Proofs.YtciolgmljpamlaaGreatDoor
end
