/- A bundle of texts: Co1. -/
import Derived.Test.YtciolgmljpamlaaGreatDoorC08
import Derived.Test.YtciolgmljpamlaaGreatDoorC22
section
namespace Go.Proofs.YtciolgmljpamlaaGreatDoor
open Go Go.RowKit
set_option maxRecDepth 100000
theorem Box.same {w : World} {b : Nat} {cs : Array Value} {t : TypeId} (h : Box w b cs t) {i : Nat} {v : Value} (hv : cs[i]? = some v) : w.setCell ⟨b, i, none⟩ v = w := by
  have hh : (w.setCell ⟨b, i, none⟩ v).heap = w.heap := by
    apply Array.ext_getElem?
    intro k
    by_cases e : b = k
    · subst e
      have h1 := h.set i v
      unfold Box at h h1
      rw [h1, h]
      have : cs.setIfInBounds i v = cs := by
        apply Array.ext_getElem?
        intro j
        rw [Array.getElem?_setIfInBounds]
        split
        · rename_i e; subst e
          split
          · exact hv.symm
          · rename_i hj
            rw [Array.getElem?_eq_none (by omega)] at hv
            cases hv
        · rfl
      rw [this]
    · exact heap_setCell_other w ⟨b, i, none⟩ k v (fun h => e h.symm)
  show { w with heap := (w.setCell ⟨b, i, none⟩ v).heap } = w
  rw [hh]
theorem own_ne {w : World} {b1 b2 : Nat} {e1 e2 : TypeId} {s1 s2 : Nat} {v1 v2 : Value} {n1 n2 : Nat} {x1 x2 : List Value} (h1 : w.ownsRow b1 e1 s1 v1 n1 x1) (h2 : w.ownsRow b2 e2 s2 v2 n2 x2) (he : e1 ≠ e2) : v1.ownBlock = none ∨ v1.ownBlock ≠ v2.ownBlock := by
  rcases h1.2 with ⟨rfl, _⟩ | ⟨g, cap, cur, rfl, _, hg, _⟩
  · exact .inl rfl
  · right
    rcases h2.2 with ⟨rfl, _⟩ | ⟨g2, cap2, cur2, rfl, _, hg2, _⟩
    · simp [Value.ownBlock]
    · intro e
      simp only [Value.ownBlock, Option.some.injEq] at e
      subst e
      rw [hg] at hg2
      injection hg2 with hg2
      injection hg2 with _ e3 _
      exact he e3
def M.exc5 (W H : Int) (G P : List Int) (a b : St) (o : Int) : Bool := decide (5 * M.total P (M.area W H G a) < 1000 * M.total P (M.lost W H G a (M.ratio o) [b]))
def M.forb (W H : Int) (G P : List Int) (a b : St) (o : Int) : Bool := M.exc5 W H G P a b o || M.exc5 W H G P b a (-o)
def M.forbR (W H : Int) (G P : List Int) (a b : St) (o : Int) : Bool × Int := if M.lostOk W H G P a o [b] = true then (M.forb W H G P a b o, 0) else (false, 2)
theorem M.excR_5 {W H : Int} {G P : List Int} {a b : St} {o : Int} (h : M.lostOk W H G P a o [b] = true) : M.excR W H G P a b o 5 = (M.exc5 W H G P a b o, 0) := by
  unfold M.excR
  rw [h, if_pos (by decide)]
  rfl
theorem M.excR_5no {W H : Int} {G P : List Int} {a b : St} {o : Int} (h : M.lostOk W H G P a o [b] = false) : M.excR W H G P a b o 5 = (false, 2) := by
  unfold M.excR
  rw [h, if_neg (by decide)]
theorem M.lostOk_swap {W H : Int} {G P : List Int} {a b : St} {o : Int} (h : M.lostOk W H G P a o [b] = true) : M.lostOk W H G P b (-o) [a] = true := by
  unfold M.lostOk M.okOff at *
  simp only [List.all_cons, List.all_nil, Bool.and_true, Bool.and_eq_true, decide_eq_true_eq] at *
  exact ⟨⟨by omega, h.2⟩, h.1.2⟩
theorem M.lostOk_off {W H : Int} {G P : List Int} {a b : St} {o : Int} (h : M.lostOk W H G P a o [b] = true) : -1 ≤ o ∧ o ≤ 1 := by
  unfold M.lostOk M.okOff at h
  simp only [Bool.and_eq_true, decide_eq_true_eq] at h
  exact h.1.1
set_option maxHeartbeats 4000000 in
theorem cforbids_any (W H : Int) (GA PA : Option Addr) (gc pc : Nat) (G P : List Int) (a b : St) (A B : Option Addr) (c d : Nat) (o : Int) (w : World) (ht : Tab w) (hg : Sl 1 icell w w.heap.size GA G) (hp : Sl 1 icell w w.heap.size PA P) (hS : Sl 1 icell w w.heap.size A a.pat) (hT : Sl 1 icell w w.heap.size B b.pat)
    (hgl : G.length ≤ 9223372036854775807) (hpl' : P.length ≤ 9223372036854775807) (hpa : a.pat.length ≤ 1000) (hpb : b.pat.length ≤ 1000) :
    Calls Tryz.prog 21 #[tv W H GA PA G.length gc P.length pc, stv a A c, stv b B d, .int .i64 o] w fun e w' => e = .returned (.tuple #[.bool (M.forbR W H G P a b o).1, .int .i64 (M.forbR W H G P a b o).2]) ∧ Below w.heap.size w w' := by
  obtain ⟨V, HW, x0, x1, x2, hB, -⟩ := boxes3 w #[.int .i64 W, .int .i64 H, .slice GA G.length gc, .slice PA P.length pc] 24 (stc a A c) 40 (stc b B d) 40
  have kE := iexceeds_any W H GA PA gc pc G P a b A B c d o 5 V (ht.kept hB) ((hg.below hB).more hB.size) ((hp.below hB).more hB.size) ((hS.below hB).more hB.size) ((hT.below hB).more hB.size) hgl hpl' hpa hpb
  obtain ⟨c0, c1, c2, c3⟩ := x0.c4
  obtain ⟨b0, b1, b2, b3, b4, b5, b6, b7⟩ := x1.c8
  obtain ⟨d0, d1, d2, d3, d4, d5, d6, d7⟩ := x2.c8
  have hV := HW.out
  unfold M.forbR
  cases hok : M.lostOk W H G P a o [b] with
  | false =>
    rw [M.excR_5no hok] at kE
    rw [if_neg (by simp)]
    go_enter Tryz.func21, Tryz.ntmps21
    go_wp2_with fail
    refine kE.mono ?_
    rintro e w1 ⟨rfl, hb1⟩
    go_wp2_with fail
    go_ret2
    exact ⟨rfl, after_ hB hb1⟩
  | true =>
    rw [M.excR_5 hok] at kE
    rw [if_pos rfl]
    unfold M.forb
    have ho := M.lostOk_off hok
    have hok2 := M.lostOk_swap hok
    cases h1 : M.exc5 W H G P a b o with
    | true =>
      rw [h1] at kE
      go_enter Tryz.func21, Tryz.ntmps21
      go_wp2_with fail
      refine kE.mono ?_
      rintro e w1 ⟨rfl, hb1⟩
      go_wp2_with fail
      go_ret2
      exact ⟨rfl, after_ hB hb1⟩
    | false =>
      rw [h1] at kE
      go_enter Tryz.func21, Tryz.ntmps21
      go_wp2_with fail
      refine kE.mono ?_
      rintro e w1 ⟨rfl, hb1⟩
      have B1 := after_ hB hb1
      have k2 := iexceeds_any W H GA PA gc pc G P b a B A d c (-o) 5 w1 (ht.kept B1) ((hg.below B1).more B1.size) ((hp.below B1).more B1.size) ((hT.below B1).more B1.size) ((hS.below B1).more B1.size) hgl hpl' hpb hpa
      rw [M.excR_5 hok2] at k2
      clear c0 c1 c2 c3 b0 b1 b2 b3 b4 b5 b6 b7 d0 d1 d2 d3 d4 d5 d6 d7
      obtain ⟨c0, c1, c2, c3⟩ := (x0.below hb1).c4
      obtain ⟨b0, b1, b2, b3, b4, b5, b6, b7⟩ := (x1.below hb1).c8
      obtain ⟨d0, d1, d2, d3, d4, d5, d6, d7⟩ := (x2.below hb1).c8
      go_wp2_with fail
      refine k2.mono ?_
      rintro e w2 ⟨rfl, hb2⟩
      go_wp2_with fail
      go_ret2
      exact ⟨by rw [Bool.false_or]; rfl, after_ B1 hb2⟩
def M.lossO (W H : Int) (G P : List Int) (a b : St) (same o : Int) : Int := if same = 0 then 0 else M.total P (M.lost W H G a (M.ratio o) [b])
set_option maxHeartbeats 4000000 in
theorem lossOf_ok (W H : Int) (GA PA : Option Addr) (gc pc : Nat) (G P : List Int) (a b : St) (A B : Option Addr) (c d : Nat) (same o : Int) (bf bt : Nat) (w : World) (ht : Tab w) (hg : Sl 1 icell w w.heap.size GA G) (hp : Sl 1 icell w w.heap.size PA P) (hS : Sl 1 icell w w.heap.size A a.pat) (hT : Sl 1 icell w w.heap.size B b.pat)
    (hgl : G.length ≤ 9223372036854775807) (hpl' : P.length ≤ 9223372036854775807) (hpa : a.pat.length ≤ 1000) (hpb : b.pat.length ≤ 1000) (y0 : Box w bf #[.int .i64 0] 33) (y1 : Box w bt #[.int .i64 W, .int .i64 H, .slice GA G.length gc, .slice PA P.length pc] 24) (hok : M.lostOk W H G P a o [b] = true) :
    Calls Tryz.prog 109 #[stv a A c, stv b B d, .int .i64 same, .int .i64 o, .pointer (some ⟨bf, 0, none⟩), .pointer (some ⟨bt, 0, none⟩)] w fun e w' => e = .returned (.int .i64 (M.lossO W H G P a b same o)) ∧ Below w.heap.size w w' := by
  obtain ⟨V, HW, x0, x1, hB, -⟩ := boxes2 w (stc a A c) 40 (stc b B d) 40
  have z0 := y0.below hB
  have z1 := y1.below hB
  have e0 := z0.c1
  unfold M.lossO
  have hV := HW.out
  by_cases hs : same = 0
  · have q : (same == 0) = true := by simp [hs]
    rw [if_pos hs]
    go_enter Tryz.func109, Tryz.ntmps109
    go_wp2_with fail
    go_ret
    exact ⟨rfl, hB⟩
  · have q : (same == 0) = false := by simp [hs]
    rw [if_neg hs]
    have kP := ipeople_any W H GA PA gc pc G P a b A B c d o V (ht.kept hB) ((hg.below hB).more hB.size) ((hp.below hB).more hB.size) ((hS.below hB).more hB.size) ((hT.below hB).more hB.size) hgl hpl' hpa hpb
    rw [show M.peoR W H G P a o [b] = (M.total P (M.lost W H G a (M.ratio o) [b]), 0) by unfold M.peoR; rw [if_pos hok]] at kP
    obtain ⟨c0, c1, c2, c3⟩ := z1.c4
    obtain ⟨b0, b1, b2, b3, b4, b5, b6, b7⟩ := x0.c8
    obtain ⟨d0, d1, d2, d3, d4, d5, d6, d7⟩ := x1.c8
    go_enter Tryz.func109, Tryz.ntmps109
    go_wp2_with fail
    refine kP.mono ?_
    rintro e w1 ⟨rfl, hb1⟩
    have v0 := z0.below hb1
    have f0 := v0.frozen 0
    have e1 := v0.c1
    have hsm := v0.same (i := 0) (v := .int .i64 0) rfl
    go_wp2_with fail
    go_ret
    exact ⟨rfl, after_ hB hb1⟩
def M.tooMuch (pa pb la lb : Int) : Bool := decide (5 * pa < 1000 * la) || decide (5 * pb < 1000 * lb)
set_option maxHeartbeats 4000000 in
theorem forbidden_ok (pa pb la lb : Int) (ba bb : Nat) (w : World) (y0 : Box w ba #[.int .i64 pa] 3) (y1 : Box w bb #[.int .i64 pb] 3) (h1 : 0 ≤ pa ∧ pa ≤ 100000000000) (h2 : 0 ≤ pb ∧ pb ≤ 100000000000) (h3 : 0 ≤ la ∧ la ≤ 100000000000) (h4 : 0 ≤ lb ∧ lb ≤ 100000000000) :
    Calls Tryz.prog 110 #[.int .i64 la, .int .i64 lb, .pointer (some ⟨ba, 0, none⟩), .pointer (some ⟨bb, 0, none⟩)] w fun e w' => e = .returned (.bool (M.tooMuch pa pb la lb)) ∧ w = w' := by
  have e0 := y0.c1
  have e1 := y1.c1
  unfold M.tooMuch
  cases q1 : decide (5 * pa < 1000 * la) with
  | true =>
    have q2 : 5 * pa < 1000 * la := of_decide_eq_true q1
    go_enter Tryz.func110, Tryz.ntmps110
    go_wp2_with fail
    go_ret
    exact ⟨rfl, rfl⟩
  | false =>
    go_enter Tryz.func110, Tryz.ntmps110
    go_wp2_with fail
    go_ret
    exact ⟨by rw [Bool.false_or]; rfl, rfl⟩
end Go.Proofs.YtciolgmljpamlaaGreatDoor
end
