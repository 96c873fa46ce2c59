/- A bundle of texts: LwFo. -/
import Derived.Test.YtciolgmljpamlaaGreatDoorB44
import Derived.Test.YtciolgmljpamlaaGreatDoorB45
/- The walk of the law ConstraintForbids. -/
section
namespace Go.Proofs.YtciolgmljpamlaaGreatDoor
open Go Go.RowKit
set_option maxRecDepth 100000

structure IW6 (w : World) (b0 b1 b2 : Nat) (W H : Int) (GA PA : Option Addr) (gc pc : Nat) (G P : List Int) (s : St) (A : Option Addr) (c : Nat) (t : St) (B : Option Addr) (d : Nat) (L : Nat) : Prop where
  bt : Box w b0 #[.int .i64 W, .int .i64 H, .slice GA G.length gc, .slice PA P.length pc] 24
  ba : Box w b1 (stc s A c) 40
  bb : Box w b2 (stc t B d) 40
  g : Sl 1 icell w w.heap.size GA G
  p : Sl 1 icell w w.heap.size PA P
  s1 : Sl 1 icell w w.heap.size A s.pat
  t1 : Sl 1 icell w w.heap.size B t.pat
  l : Sl 8 secell w w.heap.size (some ⟨L, 0, none⟩) [⟨s, A, c⟩, ⟨t, B, d⟩]
theorem IW6.next {w w' : World} {b0 b1 b2 : Nat} {W H : Int} {GA PA : Option Addr} {gc pc : Nat} {G P : List Int} {s : St} {A : Option Addr} {c : Nat} {t : St} {B : Option Addr} {d L : Nat} (h : IW6 w b0 b1 b2 W H GA PA gc pc G P s A c t B d L) (hb : Below w.heap.size w w') : IW6 w' b0 b1 b2 W H GA PA gc pc G P s A c t B d L :=
  ⟨h.bt.below hb, h.ba.below hb, h.bb.below hb, (h.g.below hb).more hb.size, (h.p.below hb).more hb.size, (h.s1.below hb).more hb.size, (h.t1.below hb).more hb.size, (h.l.below hb).more hb.size⟩
theorem M.small6_le {W H : Int} {gl pl n : Nat} {s t : St} (h : M.small W H gl pl (n : Int) [s, t] = true) : gl ≤ n ∧ pl ≤ n ∧ s.pat.length ≤ 20 ∧ t.pat.length ≤ 20 := by
  unfold M.small at h
  simp at h
  omega
theorem M.allowed6 {W H : Int} {G P : List Int} {s t : St} : M.allowed W H G P [s, t] = true ↔ M.okS W H G P s = true ∧ M.okS W H G P t = true := by
  unfold M.allowed
  simp only [Bool.and_eq_true, List.all_cons, List.all_nil, Bool.and_true]
  constructor
  · rintro ⟨_, a, b⟩; exact ⟨a, b⟩
  · rintro ⟨a, b⟩; exact ⟨(M.okS_iff.1 a).2.1, a, b⟩
theorem M.lostOk6 {W H : Int} {G P : List Int} {s t : St} {o : Int} : M.lostOk W H G P s o [t] = true ↔ (-1 ≤ o ∧ o ≤ 1) ∧ M.okS W H G P s = true ∧ M.okS W H G P t = true := by
  unfold M.lostOk M.okOff
  simp only [Bool.and_eq_true, List.all_cons, List.all_nil, Bool.and_true, decide_eq_true_eq, and_assoc]
  constructor
  · rintro ⟨a, b, c, d⟩; exact ⟨a, b, d, c⟩
  · rintro ⟨a, b, c, d⟩; exact ⟨a, b, d, c⟩
theorem M.forb_swap (W H : Int) (G P : List Int) (s t : St) (o : Int) : M.forb W H G P t s (-o) = M.forb W H G P s t o := by
  unfold M.forb; rw [Int.neg_neg, Bool.or_comm]

set_option maxHeartbeats 32000000 in
theorem constraintForbids_walk (W H : Int) (GA PA : Option Addr) (gc pc : Nat) (G P : List Int) (s : St) (A : Option Addr) (c : Nat) (t : St) (B : Option Addr) (d : Nat) (o : Int) (w : World) (ht : Tab w) (hg : Sl 1 icell w w.heap.size GA G) (hp : Sl 1 icell w w.heap.size PA P) (hS : Sl 1 icell w w.heap.size A s.pat) (hT : Sl 1 icell w w.heap.size B t.pat) :
    Calls Tryz.prog 5 #[tv W H GA PA G.length gc P.length pc, stv s A c, stv t B d, .int .i64 o] w fun e w' => e = .returned (.bool true) ∧ Below w.heap.size w w' := by
  obtain ⟨V, HW, x0, x1, x2, hB, -⟩ := boxes3 w #[.int .i64 W, .int .i64 H, .slice GA G.length gc, .slice PA P.length pc] 24 (stc s A c) 40 (stc t B d) 40
  obtain ⟨U, HU, u0, hBU, -⟩ := boxes1 V #[.int .i64 s.id, .int .i64 s.x, .int .i64 s.y, .int .i64 s.pw, .int .i64 s.h, .slice A s.pat.length c, .int .i64 s.band, .int .i64 s.ch, .int .i64 t.id, .int .i64 t.x, .int .i64 t.y, .int .i64 t.pw, .int .i64 t.h, .slice B t.pat.length d, .int .i64 t.band, .int .i64 t.ch] 40
  have BU := after_ hB hBU
  have iw : IW6 U w.heap.size (w.heap.size + 1) (w.heap.size + 1 + 1) W H GA PA gc pc G P s A c t B d V.heap.size := ⟨x0.below hBU, x1.below hBU, x2.below hBU, (hg.below BU).more BU.size, (hp.below BU).more BU.size, (hS.below BU).more BU.size, (hT.below BU).more BU.size, Sl.of_box u0 rfl⟩
  have lw : LW6 w U := ⟨ht.kept BU, BU⟩
  obtain ⟨b0, b1, b2, b3, b4, b5, b6, b7⟩ := x1.c8
  obtain ⟨d0, d1, d2, d3, d4, d5, d6, d7⟩ := x2.c8
  obtain ⟨c0, c1, c2, c3⟩ := iw.bt.c4
  have hV := HW.out
  have hU := HU.out
  go_enter Tryz.func5, Tryz.ntmps5
  go_wp2_with fail
  clear hV hU c0 c1 c2 c3 b0 b1 b2 b3 b4 b5 b6 b7 d0 d1 d2 d3 d4 d5 d6 d7 x0 x1 x2 u0
  refine (rSmall_any W H GA PA gc pc G.length P.length 36 (some ⟨V.heap.size, 0, none⟩) 2 [⟨s, A, c⟩, ⟨t, B, d⟩] U iw.l (by simp)).mono ?_
  rintro e w1 ⟨rfl, hb1⟩
  rw [show ([⟨s, A, c⟩, ⟨t, B, d⟩] : List SE).map (·.s) = [s, t] from rfl]
  replace iw := iw.next hb1
  replace lw := lw.next hb1
  cases hsm : M.small W H G.length P.length 36 [s, t] with
  | false =>
    go_wp2_with fail
    refine lw.known.mono ?_
    rintro e x9 ⟨rfl, hb9⟩
    go_wp2_with fail
    go_ret
    exact ⟨rfl, hb9⟩
  | true =>
    obtain ⟨hgl, hpl, hl1, hl2⟩ := M.small6_le (n := 36) hsm
    clear hsm hB hBU BU hb1
    have kF := cforbids_any W H GA PA gc pc G P s t A B c d o w1 lw.tab iw.g iw.p iw.s1 iw.t1 (by omega) (by omega) (by omega) (by omega)
    obtain ⟨h1, h2, hh⟩ : ∃ h1 h2, M.forbR W H G P s t o = (h1, h2) := ⟨_, _, rfl⟩
    rw [hh] at kF
    simp only at kF
    have HNO : Hid (¬ ((-1 ≤ o ∧ o ≤ 1) ∧ M.okS W H G P s = true ∧ M.okS W H G P t = true) → h1 = false ∧ h2 = 2) := Lib.hid (fun h => by
      unfold M.forbR at hh
      rw [if_neg (fun h3 => h (M.lostOk6.1 h3))] at hh
      exact ⟨(Prod.mk.inj hh).1.symm, (Prod.mk.inj hh).2.symm⟩)
    have HYES : Hid (((-1 ≤ o ∧ o ≤ 1) ∧ M.okS W H G P s = true ∧ M.okS W H G P t = true) → M.forb W H G P s t o = h1 ∧ h2 = 0) := Lib.hid (fun h => by
      unfold M.forbR at hh
      rw [if_pos (M.lostOk6.2 h)] at hh
      exact ⟨(Prod.mk.inj hh).1, (Prod.mk.inj hh).2.symm⟩)
    clear hh
    obtain ⟨c0, c1, c2, c3⟩ := iw.bt.c4
    obtain ⟨b0, b1, b2, b3, b4, b5, b6, b7⟩ := iw.ba.c8
    obtain ⟨d0, d1, d2, d3, d4, d5, d6, d7⟩ := iw.bb.c8
    go_wp2_with fail
    refine kF.mono ?_
    rintro e w2 ⟨rfl, hb2⟩
    replace iw := iw.next hb2
    replace lw := lw.next hb2
    clear c0 c1 c2 c3 b0 b1 b2 b3 b4 b5 b6 b7 d0 d1 d2 d3 d4 d5 d6 d7 kF hb2
    obtain ⟨c0, c1, c2, c3⟩ := iw.bt.c4
    go_wp2_with fail
    refine (rAllowed15_any W H GA PA gc pc G P (some ⟨V.heap.size, 0, none⟩) 2 [⟨s, A, c⟩, ⟨t, B, d⟩] w2 iw.g iw.p iw.l (pats16 iw.s1 iw.t1) (by omega) (by simp) (pl16 (by omega) (by omega))).mono ?_
    rintro e w3 ⟨rfl, hb3⟩
    rw [show ([⟨s, A, c⟩, ⟨t, B, d⟩] : List SE).map (·.s) = [s, t] from rfl]
    replace iw := iw.next hb3
    replace lw := lw.next hb3
    clear c0 c1 c2 c3 hb3
    have HAL : Hid (M.allowed W H G P [s, t] = true ↔ M.okS W H G P s = true ∧ M.okS W H G P t = true) := Lib.hid M.allowed6
    cases hal : M.allowed W H G P [s, t] with
    | false =>
      obtain ⟨rfl, rfl⟩ := HNO.out (fun h => by have := HAL.out.2 h.2; rw [hal] at this; cases this)
      clear hal HNO HYES HAL
      go_wp2_with fail
      refine lw.known.mono ?_
      rintro e x9 ⟨rfl, hb9⟩
      go_wp2_with fail
      go_ret
      exact ⟨rfl, hb9⟩
    | true =>
      have HOK := Lib.hid (HAL.out.1 hal)
      clear hal HAL
      by_cases g1 : o < -1
      case pos =>
        have p1 : decide (o < -1) = true := decide_eq_true g1
        obtain ⟨rfl, rfl⟩ := HNO.out (fun h => by omega)
        clear HNO HYES
        go_wp2_with fail
        refine lw.known.mono ?_
        rintro e x9 ⟨rfl, hb9⟩
        go_wp2_with fail
        go_ret
        exact ⟨rfl, hb9⟩
      have p1 : decide (o < -1) = false := decide_eq_false g1
      by_cases g2 : 1 < o
      case pos =>
        have p2 : decide (1 < o) = true := decide_eq_true g2
        obtain ⟨rfl, rfl⟩ := HNO.out (fun h => by omega)
        clear HNO HYES
        go_wp2_with fail
        refine lw.known.mono ?_
        rintro e x9 ⟨rfl, hb9⟩
        go_wp2_with fail
        go_ret
        exact ⟨rfl, hb9⟩
      have p2 : decide (1 < o) = false := decide_eq_false g2
      obtain ⟨hf1, rfl⟩ := HYES.out ⟨⟨by omega, by omega⟩, HOK.out⟩
      have kG := cforbids_any W H GA PA gc pc G P t s B A d c (-o) w3 lw.tab iw.g iw.p iw.t1 iw.s1 (by omega) (by omega) (by omega) (by omega)
      rw [show M.forbR W H G P t s (-o) = (h1, 0) by unfold M.forbR; rw [if_pos (M.lostOk6.2 ⟨⟨by omega, by omega⟩, HOK.out.2, HOK.out.1⟩), M.forb_swap, hf1]] at kG
      simp only at kG
      have HF1 := Lib.hid hf1
      clear hf1 HNO HYES
      obtain ⟨c0, c1, c2, c3⟩ := iw.bt.c4
      obtain ⟨b0, b1, b2, b3, b4, b5, b6, b7⟩ := iw.ba.c8
      obtain ⟨d0, d1, d2, d3, d4, d5, d6, d7⟩ := iw.bb.c8
      go_wp2_with fail
      refine kG.mono ?_
      rintro e w4 ⟨rfl, hb4⟩
      replace iw := iw.next hb4
      replace lw := lw.next hb4
      clear c0 c1 c2 c3 b0 b1 b2 b3 b4 b5 b6 b7 d0 d1 d2 d3 d4 d5 d6 d7 kG hb4
      have kR := rForb16_ok W H GA PA gc pc G P s t A B c d o w4 iw.g iw.p iw.s1 iw.t1 HOK.out.1 HOK.out.2 ⟨by omega, by omega⟩
      rw [HF1.out] at kR
      have qh : (h1 == h1) = true := by simp
      obtain ⟨c0, c1, c2, c3⟩ := iw.bt.c4
      obtain ⟨b0, b1, b2, b3, b4, b5, b6, b7⟩ := iw.ba.c8
      obtain ⟨d0, d1, d2, d3, d4, d5, d6, d7⟩ := iw.bb.c8
      go_wp2_with fail
      refine kR.mono ?_
      rintro e w5 ⟨rfl, hb5⟩
      replace lw := lw.next hb5
      clear c0 c1 c2 c3 b0 b1 b2 b3 b4 b5 b6 b7 d0 d1 d2 d3 d4 d5 d6 d7 kR hb5
      go_wp2_with fail
      refine lw.known.mono ?_
      rintro e x9 ⟨rfl, hb9⟩
      go_wp2_with fail
      go_ret
      exact ⟨rfl, hb9⟩
end Go.Proofs.YtciolgmljpamlaaGreatDoor
end
