/- The walk of the law InterfereCells. -/
import Derived.Test.YtohkbblfcjmmnaaGreatDoorLawHi
namespace Go.Proofs.YtohkbblfcjmmnaaGreatDoor
open Go Go.RowKit
set_option maxRecDepth 100000

theorem M.lostOk2 (W H : Int) (G P : List Int) (s t : St) (o : Int) : M.lostOk W H G P s o [t] = (M.okOff o && M.allowed W H G P [s, t]) := by
  rw [Bool.eq_iff_iff]
  unfold M.lostOk
  simp only [Bool.and_eq_true, List.all_cons, List.all_nil, Bool.and_true, M.allowed2]
  constructor
  · rintro ⟨⟨a, b⟩, c⟩; exact ⟨a, c, b⟩
  · rintro ⟨a, c, b⟩; exact ⟨⟨a, b⟩, c⟩

set_option maxHeartbeats 32000000 in
theorem interfereCells_walk (W H : Int) (GA PA : Option Addr) (gc pc : Nat) (G P : List Int) (s : St) (A : Option Addr) (c : Nat) (t : St) (B : Option Addr) (d : Nat) (o : Int) (w : World) (ht : Tab w) (hg : Sl 1 icell w w.heap.size GA G) (hp : Sl 1 icell w w.heap.size PA P) (hS : Sl 1 icell w w.heap.size A s.pat) (hT : Sl 1 icell w w.heap.size B t.pat) :
    Calls Tryz.prog 4 #[tv W H GA PA G.length gc P.length pc, stv s A c, stv t B d, .int .i64 o] w (LawTrue w) := by
  obtain ⟨V, HW, x0, x1, x2, hB, -⟩ := boxes3 w #[.int .i64 W, .int .i64 H, .slice GA G.length gc, .slice PA P.length pc] 24 (stc s A c) 28 (stc t B d) 28
  obtain ⟨U, HU, u0, hBU, -⟩ := boxes1 V #[.int .i64 s.id, .int .i64 s.x, .int .i64 s.y, .int .i64 s.pw, .int .i64 s.h, .slice A s.pat.length c, .int .i64 s.band, .int .i64 s.ch, .int .i64 t.id, .int .i64 t.x, .int .i64 t.y, .int .i64 t.pw, .int .i64 t.h, .slice B t.pat.length d, .int .i64 t.band, .int .i64 t.ch] 28
  have BU := after_ hB hBU
  have iw : IW U w.heap.size (w.heap.size + 1) (w.heap.size + 1 + 1) W H GA PA gc pc G P s A c t B d V.heap.size := ⟨x0.below hBU, x1.below hBU, x2.below hBU, (hg.below BU).more BU.size, (hp.below BU).more BU.size, (hS.below BU).more BU.size, (hT.below BU).more BU.size, Sl.of_box u0 rfl, ht.kept BU⟩
  obtain ⟨b0, b1, b2, b3, b4, b5, b6, b7⟩ := x1.c8
  obtain ⟨d0, d1, d2, d3, d4, d5, d6, d7⟩ := x2.c8
  obtain ⟨c0, c1, c2, c3⟩ := iw.bt.c4
  have hV := HW.out
  have hU := HU.out
  go_enter Tryz.func4, Tryz.ntmps4
  go_wp2_with fail
  clear hV hU c0 c1 c2 c3 b0 b1 b2 b3 b4 b5 b6 b7 d0 d1 d2 d3 d4 d5 d6 d7 x0 x1 x2 u0
  refine (lsmall_any W H GA PA gc pc G.length P.length (some ⟨V.heap.size, 0, none⟩) 2 [⟨s, A, c⟩, ⟨t, B, d⟩] U iw.l (by simp)).mono ?_
  rintro e w1 ⟨rfl, hb1⟩
  rw [show ([⟨s, A, c⟩, ⟨t, B, d⟩] : List SE).map (·.s) = [s, t] from rfl]
  have B1 := after_ BU hb1
  replace iw := iw.below hb1
  cases hsm : M.small W H G.length P.length 49 [s, t] with
  | false =>
    go_wp2_with fail
    refine (known_any w1 iw.tab).mono ?_
    rintro e w2 ⟨rfl, hb2⟩
    go_wp2_with fail
    go_ret
    exact ⟨rfl, after_ B1 hb2⟩
  | true =>
    obtain ⟨hgl, hpl, hl1, hl2⟩ := M.small_le hsm
    clear hsm
    have kL := icells_any W H GA PA gc pc G P s t A B c d o w1 iw.tab iw.g iw.p iw.s1 iw.t1 (by omega) (by omega) (by omega) (by omega)
    have kP : Hid (∀ w2, IW w2 w.heap.size (w.heap.size + 1) (w.heap.size + 1 + 1) W H GA PA gc pc G P s A c t B d V.heap.size → Calls Tryz.prog 16 #[tv W H GA PA G.length gc P.length pc, stv s A c, stv t B d, .int .i64 o] w2 fun e w' => e = .returned (.tuple #[.int .i64 (M.peoR W H G P s o [t]).1, .int .i64 (M.peoR W H G P s o [t]).2]) ∧ Below w2.heap.size w2 w') := Lib.hid (fun w2 iw2 => ipeople_any W H GA PA gc pc G P s t A B c d o w2 iw2.tab iw2.g iw2.p iw2.s1 iw2.t1 (by omega) (by omega) (by omega) (by omega))
    have HLO := Lib.hid (M.lostOk2 W H G P s t o)
    unfold M.lostR at kL
    unfold M.peoR at kP
    obtain ⟨c0, c1, c2, c3⟩ := iw.bt.c4
    obtain ⟨b0, b1, b2, b3, b4, b5, b6, b7⟩ := iw.ba.c8
    obtain ⟨d0, d1, d2, d3, d4, d5, d6, d7⟩ := iw.bb.c8
    cases hlo : M.lostOk W H G P s o [t] with
    | false =>
      rw [hlo, if_neg (by decide)] at kL kP
      go_wp2_with fail
      refine kL.mono ?_
      rintro e w2 ⟨LA, lc, rfl, hLs, hb2⟩
      have B2 := after_ B1 hb2
      replace iw := iw.below hb2
      clear c0 c1 c2 c3 b0 b1 b2 b3 b4 b5 b6 b7 d0 d1 d2 d3 d4 d5 d6 d7
      obtain ⟨c0, c1, c2, c3⟩ := iw.bt.c4
      obtain ⟨b0, b1, b2, b3, b4, b5, b6, b7⟩ := iw.ba.c8
      obtain ⟨d0, d1, d2, d3, d4, d5, d6, d7⟩ := iw.bb.c8
      simp only [List.length_nil]
      go_wp2_with fail
      refine (kP.out w2 iw).mono ?_
      rintro e w3 ⟨rfl, hb3⟩
      simp only
      have B3 := after_ B2 hb3
      replace iw := iw.below hb3
      clear c0 c1 c2 c3 b0 b1 b2 b3 b4 b5 b6 b7 d0 d1 d2 d3 d4 d5 d6 d7
      obtain ⟨c0, c1, c2, c3⟩ := iw.bt.c4
      go_wp2_with fail
      refine (rAllowed15_any W H GA PA gc pc G P (some ⟨V.heap.size, 0, none⟩) 2 [⟨s, A, c⟩, ⟨t, B, d⟩] w3 iw.g iw.p iw.l (pats2 iw.s1 iw.t1) (by omega) (by simp) (pl2 (by omega) (by omega))).mono ?_
      rintro e w4 ⟨rfl, hb4⟩
      rw [show ([⟨s, A, c⟩, ⟨t, B, d⟩] : List SE).map (·.s) = [s, t] from rfl]
      have B4 := after_ B3 hb4
      replace iw := iw.below hb4
      cases hal : M.allowed W H G P [s, t] with
      | false =>
        clear hal hlo
        go_wp2_with fail
        refine (known_any w4 iw.tab).mono ?_
        rintro e w5 ⟨rfl, hb5⟩
        go_wp2_with fail
        go_ret
        exact ⟨rfl, after_ B4 hb5⟩
      | true =>
        have hoff : M.okOff o = false := by
          have := HLO.out
          rw [hlo, hal, Bool.and_true] at this
          exact this.symm
        have ho : ¬ (-1 ≤ o ∧ o ≤ 1) := fun h => by unfold M.okOff at hoff; rw [decide_eq_true h] at hoff; cases hoff
        clear hal hlo hoff
        by_cases g1 : o < -1
        · have q1 : decide (o < -1) = true := decide_eq_true g1
          clear ho
          go_wp2_with fail
          refine (known_any w4 iw.tab).mono ?_
          rintro e w5 ⟨rfl, hb5⟩
          go_wp2_with fail
          go_ret
          exact ⟨rfl, after_ B4 hb5⟩
        · have q1 : decide (o < -1) = false := decide_eq_false g1
          have q2 : decide (1 < o) = true := decide_eq_true (by omega)
          clear ho
          go_wp2_with fail
          refine (known_any w4 iw.tab).mono ?_
          rintro e w5 ⟨rfl, hb5⟩
          go_wp2_with fail
          go_ret
          exact ⟨rfl, after_ B4 hb5⟩
    | true =>
      rw [hlo, if_pos rfl] at kL kP
      have hoa2 := HLO.out
      rw [hlo, eq_comm, Bool.and_eq_true] at hoa2
      obtain ⟨hoff, hal⟩ := hoa2
      obtain ⟨hos, hot⟩ := M.allowed2.1 hal
      obtain ⟨-, htv, -, -⟩ := M.okS_iff.1 hos
      obtain ⟨r1, r2, r3, r4, r5, r6⟩ := M.tvalid_iff.1 htv
      have ho : -1 ≤ o ∧ o ≤ 1 := by unfold M.okOff at hoff; exact of_decide_eq_true hoff
      have q1 : decide (o < -1) = false := decide_eq_false (by omega)
      have q2 : decide (1 < o) = false := decide_eq_false (by omega)
      have hll : (M.lost W H G s (M.ratio o) [t]).length ≤ 4096 := M.lost_len4 htv
      have HIN := Lib.hid (M.lost_in (W := W) (H := H) (G := G) (a := s) (r := M.ratio o) (l := [t]))
      have HAL := Lib.hid hal
      have HR6 := Lib.hid r6
      have kC : Hid (∀ w2, IW w2 w.heap.size (w.heap.size + 1) (w.heap.size + 1 + 1) W H GA PA gc pc G P s A c t B d V.heap.size → Calls Tryz.prog 17 #[tv W H GA PA G.length gc P.length pc, stv s A c, stv t B d, .int .i64 o] w2 (RetS 1 icell w2 (M.lost W H G s (M.ratio o) [t]))) := Lib.hid (fun w2 iw2 => rCells15_ok W H GA PA gc pc G P s t A B c d o w2 iw2.g iw2.s1 iw2.t1 hos hot)
      clear hlo hoff hal hos hot htv r3 r5 r6 ho
      generalize M.lost W H G s (M.ratio o) [t] = ls at *
      obtain ⟨tl, HTL⟩ : ∃ tl, Hid (M.total P ls = tl) := ⟨_, Lib.hid rfl⟩
      rw [HTL.out] at kP
      go_wp2_with fail
      refine kL.mono ?_
      rintro e w2 ⟨LA, lc, rfl, hLs, hb2⟩
      have B2 := after_ B1 hb2
      replace iw := iw.below hb2
      clear c0 c1 c2 c3 b0 b1 b2 b3 b4 b5 b6 b7 d0 d1 d2 d3 d4 d5 d6 d7
      obtain ⟨c0, c1, c2, c3⟩ := iw.bt.c4
      obtain ⟨b0, b1, b2, b3, b4, b5, b6, b7⟩ := iw.ba.c8
      obtain ⟨d0, d1, d2, d3, d4, d5, d6, d7⟩ := iw.bb.c8
      simp only
      go_wp2_with fail
      refine (kP.out w2 iw).mono ?_
      rintro e w3 ⟨rfl, hb3⟩
      simp only
      have B3 := after_ B2 hb3
      replace iw := iw.below hb3
      replace hLs := (hLs.below hb3).more hb3.size
      clear c0 c1 c2 c3 b0 b1 b2 b3 b4 b5 b6 b7 d0 d1 d2 d3 d4 d5 d6 d7
      obtain ⟨c0, c1, c2, c3⟩ := iw.bt.c4
      go_wp2_with fail
      refine (rAllowed15_any W H GA PA gc pc G P (some ⟨V.heap.size, 0, none⟩) 2 [⟨s, A, c⟩, ⟨t, B, d⟩] w3 iw.g iw.p iw.l (pats2 iw.s1 iw.t1) (by omega) (by simp) (pl2 (by omega) (by omega))).mono ?_
      rintro e w4 ⟨rfl, hb4⟩
      rw [show ([⟨s, A, c⟩, ⟨t, B, d⟩] : List SE).map (·.s) = [s, t] from rfl, HAL.out]
      have B4 := after_ B3 hb4
      replace iw := iw.below hb4
      replace hLs := (hLs.below hb4).more hb4.size
      clear c0 c1 c2 c3
      obtain ⟨c0, c1, c2, c3⟩ := iw.bt.c4
      obtain ⟨b0, b1, b2, b3, b4, b5, b6, b7⟩ := iw.ba.c8
      obtain ⟨d0, d1, d2, d3, d4, d5, d6, d7⟩ := iw.bb.c8
      go_wp2_with fail
      clear q1 q2
      refine (kC.out w4 iw).mono ?_
      rintro e w5 ⟨RA, rc, rfl, hRs, hb5⟩
      have B5 := after_ B4 hb5
      replace iw := iw.below hb5
      replace hLs := (hLs.below hb5).more hb5.size
      clear c0 c1 c2 c3 b0 b1 b2 b3 b4 b5 b6 b7 d0 d1 d2 d3 d4 d5 d6 d7
      have kS := same_any LA RA lc rc ls ls w5 hLs hRs (by omega)
      rw [decide_eq_true rfl] at kS
      go_wp2_with fail
      refine kS.mono ?_
      rintro e w6 ⟨rfl, hb6⟩
      have B6 := after_ B5 hb6
      replace iw := iw.below hb6
      replace hRs := (hRs.below hb6).more hb6.size
      obtain ⟨c0, c1, c2, c3⟩ := iw.bt.c4
      go_wp2_with fail
      refine (rPeople15_ok W H GA PA gc pc G.length P RA rc ls w6 iw.p hRs r1 r2 r4 HR6.out (by omega) HIN.out).mono ?_
      rintro e w7 ⟨rfl, hb7⟩
      rw [HTL.out]
      have B7 := after_ B6 hb7
      have q3 : (tl == tl) = true := by simp
      go_wp2_with fail
      refine (known_any w7 (iw.below hb7).tab).mono ?_
      rintro e w8 ⟨rfl, hb8⟩
      go_wp2_with fail
      go_ret
      exact ⟨rfl, after_ B7 hb8⟩
end Go.Proofs.YtohkbblfcjmmnaaGreatDoor
