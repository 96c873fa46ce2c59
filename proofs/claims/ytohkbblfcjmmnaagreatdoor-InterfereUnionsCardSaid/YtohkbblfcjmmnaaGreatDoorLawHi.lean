/- The walk of the law InterfereHits. -/
import Derived.Test.YtohkbblfcjmmnaaGreatDoorKn15
namespace Go.Proofs.YtohkbblfcjmmnaaGreatDoor
open Go Go.RowKit
set_option maxRecDepth 100000

/-- A law that returned true and kept everything that was there. -/
def LawTrue (w : World) (e : Ending) (w' : World) : Prop := e = .returned (.bool true) ∧ Below w.heap.size w w'

/-- What a law of layer 15 holds. -/
structure IW (w : World) (b0 b1 b2 : Nat) (W H : Int) (GA PA : Option Addr) (gc pc : Nat) (G P : List Int) (s : St) (A : Option Addr) (c : Nat) (t : St) (B : Option Addr) (d : Nat) (L : Nat) : Prop where
  bt : Box w b0 #[.int .i64 W, .int .i64 H, .slice GA G.length gc, .slice PA P.length pc] 24
  ba : Box w b1 (stc s A c) 28
  bb : Box w b2 (stc t B d) 28
  g : Sl 1 icell w w.heap.size GA G
  p : Sl 1 icell w w.heap.size PA P
  s1 : Sl 1 icell w w.heap.size A s.pat
  t1 : Sl 1 icell w w.heap.size B t.pat
  l : Sl 8 secell w w.heap.size (some ⟨L, 0, none⟩) [⟨s, A, c⟩, ⟨t, B, d⟩]
  tab : Tab w
theorem IW.below {w w' : World} {b0 b1 b2 : Nat} {W H : Int} {GA PA : Option Addr} {gc pc : Nat} {G P : List Int} {s : St} {A : Option Addr} {c : Nat} {t : St} {B : Option Addr} {d L : Nat} (h : IW w b0 b1 b2 W H GA PA gc pc G P s A c t B d L) (hb : Below w.heap.size w w') : IW w' b0 b1 b2 W H GA PA gc pc G P s A c t B d L :=
  ⟨h.bt.below hb, h.ba.below hb, h.bb.below hb, (h.g.below hb).more hb.size, (h.p.below hb).more hb.size, (h.s1.below hb).more hb.size, (h.t1.below hb).more hb.size, (h.l.below hb).more hb.size, h.tab.kept hb⟩
theorem M.small_le {W H : Int} {gl pl : Nat} {s t : St} (h : M.small W H gl pl 49 [s, t] = true) : gl ≤ 49 ∧ pl ≤ 49 ∧ s.pat.length ≤ 20 ∧ t.pat.length ≤ 20 := by
  unfold M.small at h
  simp at h
  omega
theorem M.allowed2 {W H : Int} {G P : List Int} {s t : St} : M.allowed W H G P [s, t] = true ↔ M.okS W H G P s = true ∧ M.okS W H G P t = true := by
  unfold M.allowed
  simp only [Bool.and_eq_true, List.all_cons, List.all_nil, Bool.and_true]
  constructor
  · rintro ⟨_, a, b⟩; exact ⟨a, b⟩
  · rintro ⟨a, b⟩; exact ⟨(M.okS_iff.1 a).2.1, a, b⟩

set_option maxHeartbeats 32000000 in
theorem interfereHits_walk (W H : Int) (GA PA : Option Addr) (gc pc : Nat) (G P : List Int) (s : St) (A : Option Addr) (c : Nat) (t : St) (B : Option Addr) (d : Nat) (o i : Int) (w : World) (ht : Tab w) (hg : Sl 1 icell w w.heap.size GA G) (hp : Sl 1 icell w w.heap.size PA P) (hS : Sl 1 icell w w.heap.size A s.pat) (hT : Sl 1 icell w w.heap.size B t.pat) :
    Calls Tryz.prog 3 #[tv W H GA PA G.length gc P.length pc, stv s A c, stv t B d, .int .i64 o, .int .i64 i] w (LawTrue w) := by
  obtain ⟨V, HW, x0, x1, x2, hB, -⟩ := boxes3 w #[.int .i64 W, .int .i64 H, .slice GA G.length gc, .slice PA P.length pc] 24 (stc s A c) 28 (stc t B d) 28
  obtain ⟨U, HU, u0, hBU, -⟩ := boxes1 V #[.int .i64 s.id, .int .i64 s.x, .int .i64 s.y, .int .i64 s.pw, .int .i64 s.h, .slice A s.pat.length c, .int .i64 s.band, .int .i64 s.ch, .int .i64 t.id, .int .i64 t.x, .int .i64 t.y, .int .i64 t.pw, .int .i64 t.h, .slice B t.pat.length d, .int .i64 t.band, .int .i64 t.ch] 28
  have BU := after_ hB hBU
  have iw : IW U w.heap.size (w.heap.size + 1) (w.heap.size + 1 + 1) W H GA PA gc pc G P s A c t B d V.heap.size := ⟨x0.below hBU, x1.below hBU, x2.below hBU, (hg.below BU).more BU.size, (hp.below BU).more BU.size, (hS.below BU).more BU.size, (hT.below BU).more BU.size, Sl.of_box u0 rfl, ht.kept BU⟩
  obtain ⟨b0, b1, b2, b3, b4, b5, b6, b7⟩ := x1.c8
  obtain ⟨d0, d1, d2, d3, d4, d5, d6, d7⟩ := x2.c8
  obtain ⟨c0, c1, c2, c3⟩ := iw.bt.c4
  have hV := HW.out
  have hU := HU.out
  go_enter Tryz.func3, Tryz.ntmps3
  go_wp2_with fail
  clear hV hU c0 c1 c2 c3 b0 b1 b2 b3 b4 b5 b6 b7 d0 d1 d2 d3 d4 d5 d6 d7 x0 x1 x2 u0
  refine (lsmall_any W H GA PA gc pc G.length P.length (some ⟨V.heap.size, 0, none⟩) 2 [⟨s, A, c⟩, ⟨t, B, d⟩] U iw.l (by simp)).mono ?_
  rintro e w1 ⟨rfl, hb1⟩
  rw [show ([⟨s, A, c⟩, ⟨t, B, d⟩] : List SE).map (·.s) = [s, t] from rfl]
  have B1 := after_ BU hb1
  replace iw := iw.below hb1
  cases hsm : M.small W H G.length P.length 49 [s, t] with
  | false =>
    go_wp2_with fail
    refine (known_any w1 iw.tab).mono ?_
    rintro e w2 ⟨rfl, hb2⟩
    go_wp2_with fail
    go_ret
    exact ⟨rfl, after_ B1 hb2⟩
  | true =>
    obtain ⟨hgl, hpl, hl1, hl2⟩ := M.small_le hsm
    clear hsm
    have kH := ihit_any W H GA PA gc pc G P s t A B c d o i w1 iw.tab iw.g iw.p iw.s1 iw.t1 (by omega) (by omega) (by omega) (by omega)
    obtain ⟨h1, h2, hh⟩ : ∃ h1 h2, M.hitR W H G P s t o i = (h1, h2) := ⟨_, _, rfl⟩
    rw [hh] at kH
    simp only at kH
    unfold M.hitR at hh
    have HH := Lib.hid hh
    clear hh
    obtain ⟨c0, c1, c2, c3⟩ := iw.bt.c4
    obtain ⟨b0, b1, b2, b3, b4, b5, b6, b7⟩ := iw.ba.c8
    obtain ⟨d0, d1, d2, d3, d4, d5, d6, d7⟩ := iw.bb.c8
    cases hoff : M.okOff o with
    | false =>
      have HH2 := HH.out
      rw [hoff, Bool.false_and, Bool.false_and, Bool.false_and, if_neg (by decide)] at HH2
      obtain ⟨rfl, rfl⟩ := Prod.mk.inj HH2
      clear HH2 HH
      have ho : ¬ (-1 ≤ o ∧ o ≤ 1) := fun h => by unfold M.okOff at hoff; rw [decide_eq_true h] at hoff; cases hoff
      go_wp2_with fail
      refine (ratio_no o w1 hoff).mono ?_
      rintro e w2 ⟨rfl, rfl⟩
      clear hoff
      by_cases g1 : o < -1
      · have q1 : decide (o < -1) = true := decide_eq_true g1
        clear ho
        go_wp2_with fail
        refine kH.mono ?_
        rintro e w2 ⟨rfl, hb2⟩
        have B2 := after_ B1 hb2
        go_wp2_with fail
        refine (known_any w2 (iw.below hb2).tab).mono ?_
        rintro e w3 ⟨rfl, hb3⟩
        go_wp2_with fail
        go_ret
        exact ⟨rfl, after_ B2 hb3⟩
      · have q1 : decide (o < -1) = false := decide_eq_false g1
        have q2 : decide (1 < o) = true := decide_eq_true (by omega)
        clear ho
        go_wp2_with fail
        refine kH.mono ?_
        rintro e w2 ⟨rfl, hb2⟩
        have B2 := after_ B1 hb2
        go_wp2_with fail
        refine (known_any w2 (iw.below hb2).tab).mono ?_
        rintro e w3 ⟨rfl, hb3⟩
        go_wp2_with fail
        go_ret
        exact ⟨rfl, after_ B2 hb3⟩
    | true =>
      have ho : -1 ≤ o ∧ o ≤ 1 := by unfold M.okOff at hoff; exact of_decide_eq_true hoff
      have q1 : decide (o < -1) = false := decide_eq_false (by omega)
      have q2 : decide (1 < o) = false := decide_eq_false (by omega)
      have HOFF := Lib.hid hoff
      obtain ⟨ro, HRO⟩ : ∃ ro, Hid (M.ratio o = ro) := ⟨_, Lib.hid rfl⟩
      have kR : Calls Tryz.prog 10 #[.int .i64 o] w1 fun e w' => e = .returned (.tuple #[.int .i64 ro, .int .i64 0]) ∧ w1 = w' := by rw [← HRO.out]; exact ratio_ok o w1 hoff
      have kRR : Hid (∀ w2, Calls Tryz.prog 12 #[.int .i64 o] w2 fun e w' => e = .returned (.int .i64 ro) ∧ w2 = w') := Lib.hid (fun w2 => by rw [← HRO.out]; exact rRatio_ok o w2)
      have q3 : (ro != ro) = false := by simp
      clear hoff ho
      go_wp2_with fail
      refine kR.mono ?_
      rintro e w2 ⟨rfl, rfl⟩
      go_wp2_with fail
      refine kH.mono ?_
      rintro e w2 ⟨rfl, hb2⟩
      have B2 := after_ B1 hb2
      replace iw := iw.below hb2
      clear c0 c1 c2 c3 b0 b1 b2 b3 b4 b5 b6 b7 d0 d1 d2 d3 d4 d5 d6 d7 kH kR
      go_wp2_with fail
      refine (kRR.out w2).mono ?_
      rintro e w3 ⟨rfl, rfl⟩
      obtain ⟨c0, c1, c2, c3⟩ := iw.bt.c4
      go_wp2_with fail
      refine (rAllowed15_any W H GA PA gc pc G P (some ⟨V.heap.size, 0, none⟩) 2 [⟨s, A, c⟩, ⟨t, B, d⟩] w2 iw.g iw.p iw.l (pats2 iw.s1 iw.t1) (by omega) (by simp) (pl2 (by omega) (by omega))).mono ?_
      rintro e w3 ⟨rfl, hb3⟩
      rw [show ([⟨s, A, c⟩, ⟨t, B, d⟩] : List SE).map (·.s) = [s, t] from rfl]
      have B3 := after_ B2 hb3
      replace iw := iw.below hb3
      clear c0 c1 c2 c3 q1 q2 q3 kRR
      obtain ⟨c0, c1, c2, c3⟩ := iw.bt.c4
      cases hal : M.allowed W H G P [s, t] with
      | false =>
        have HH2 := HH.out
        have hno : (M.okOff o && M.okS W H G P t && M.isIn i 0 (W * H - 1) && M.okS W H G P s) = false := by
          rw [Bool.eq_false_iff]
          intro h
          simp only [Bool.and_eq_true] at h
          rw [M.allowed2.2 ⟨h.2, h.1.1.2⟩] at hal
          cases hal
        rw [hno, if_neg (by decide)] at HH2
        obtain ⟨rfl, rfl⟩ := Prod.mk.inj HH2
        clear HH2 HH hno hal
        go_wp2_with fail
        refine (known_any w3 iw.tab).mono ?_
        rintro e w4 ⟨rfl, hb4⟩
        go_wp2_with fail
        go_ret
        exact ⟨rfl, after_ B3 hb4⟩
      | true =>
        obtain ⟨hos, hot⟩ := M.allowed2.1 hal
        obtain ⟨-, htv, -, -⟩ := M.okS_iff.1 hos
        obtain ⟨r1, r2, -⟩ := M.tvalid_iff.1 htv
        obtain ⟨wh1, wh2⟩ := M.wh_le r1 r2
        obtain ⟨n, hmul⟩ : ∃ n : Nat, W * H = n := ⟨(W * H).toNat, by omega⟩
        have HOS := Lib.hid hos
        have HOT := Lib.hid hot
        have HH2 := HH.out
        rw [HOFF.out, hos, hot, Bool.true_and, Bool.true_and, Bool.and_true] at HH2
        clear hos hot htv hal HH
        by_cases g1 : i < 0
        · have p1 : decide (i < 0) = true := decide_eq_true g1
          rw [show M.isIn i 0 (W * H - 1) = false by rw [Bool.eq_false_iff]; intro h; have := M.isIn_iff.1 h; omega, if_neg (by decide)] at HH2
          obtain ⟨rfl, rfl⟩ := Prod.mk.inj HH2
          clear HH2
          go_wp2_with fail
          refine (known_any w3 iw.tab).mono ?_
          rintro e w4 ⟨rfl, hb4⟩
          go_wp2_with fail
          go_ret
          exact ⟨rfl, after_ B3 hb4⟩
        have p1 : decide (i < 0) = false := decide_eq_false g1
        by_cases g2 : (n : Int) ≤ i
        · have p2 : decide ((n : Int) ≤ i) = true := decide_eq_true g2
          rw [show M.isIn i 0 (W * H - 1) = false by rw [Bool.eq_false_iff]; intro h; have := M.isIn_iff.1 h; omega, if_neg (by decide)] at HH2
          obtain ⟨rfl, rfl⟩ := Prod.mk.inj HH2
          clear HH2
          go_wp2_with fail
          refine (known_any w3 iw.tab).mono ?_
          rintro e w4 ⟨rfl, hb4⟩
          go_wp2_with fail
          go_ret
          exact ⟨rfl, after_ B3 hb4⟩
        have p2 : decide ((n : Int) ≤ i) = false := decide_eq_false g2
        rw [show M.isIn i 0 (W * H - 1) = true from M.isIn_iff.2 ⟨by omega, by omega⟩, if_pos rfl] at HH2
        obtain ⟨h3, rfl⟩ := Prod.mk.inj HH2
        clear HH2
        obtain ⟨m, rfl⟩ : ∃ m : Nat, i = m := ⟨i.toNat, by omega⟩
        rw [Int.toNat_natCast] at h3
        have H3 := Lib.hid h3
        clear h3
        obtain ⟨b0, b1, b2, b3, b4, b5, b6, b7⟩ := iw.ba.c8
        obtain ⟨d0, d1, d2, d3, d4, d5, d6, d7⟩ := iw.bb.c8
        go_wp2_with fail
        refine (rHit_ok W H GA PA gc pc G P s t A B c d o m w3 iw.g iw.s1 iw.t1 HOS.out HOT.out (by omega)).mono ?_
        rintro e w4 ⟨rfl, hb4⟩
        rw [H3.out]
        have B4 := after_ B3 hb4
        have q4 : (h1 == h1) = true := by simp
        go_wp2_with fail
        refine (known_any w4 (iw.below hb4).tab).mono ?_
        rintro e w5 ⟨rfl, hb5⟩
        go_wp2_with fail
        go_ret
        exact ⟨rfl, after_ B4 hb5⟩
end Go.Proofs.YtohkbblfcjmmnaaGreatDoor
