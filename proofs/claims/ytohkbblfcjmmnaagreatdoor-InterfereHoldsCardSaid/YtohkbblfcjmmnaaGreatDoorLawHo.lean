/- The walk of the law InterfereHolds. -/
import Derived.Test.YtohkbblfcjmmnaaGreatDoorLawHi
import Derived.Test.YtohkbblfcjmmnaaGreatDoorHoMath
namespace Go.Proofs.YtohkbblfcjmmnaaGreatDoor
open Go Go.RowKit
set_option maxRecDepth 100000

set_option maxHeartbeats 32000000 in
theorem interfereHolds_walk (W H : Int) (GA PA : Option Addr) (gc pc : Nat) (G P : List Int) (s : St) (A : Option Addr) (c : Nat) (t : St) (B : Option Addr) (d : Nat) (more : Int) (w : World) (ht : Tab w) (hg : Sl 1 icell w w.heap.size GA G) (hp : Sl 1 icell w w.heap.size PA P) (hS : Sl 1 icell w w.heap.size A s.pat) (hT : Sl 1 icell w w.heap.size B t.pat) :
    Calls Tryz.prog 7 #[tv W H GA PA G.length gc P.length pc, stv s A c, stv t B d, .int .i64 more] w (LawTrue w) := by
  obtain ⟨V, HW, x0, x1, x2, hB, -⟩ := boxes3 w #[.int .i64 W, .int .i64 H, .slice GA G.length gc, .slice PA P.length pc] 24 (stc s A c) 28 (stc t B d) 28
  obtain ⟨U, HU, u0, hBU, -⟩ := boxes1 V #[.int .i64 s.id, .int .i64 s.x, .int .i64 s.y, .int .i64 s.pw, .int .i64 s.h, .slice A s.pat.length c, .int .i64 s.band, .int .i64 s.ch, .int .i64 t.id, .int .i64 t.x, .int .i64 t.y, .int .i64 t.pw, .int .i64 t.h, .slice B t.pat.length d, .int .i64 t.band, .int .i64 t.ch] 28
  have BU := after_ hB hBU
  have iw : IW U w.heap.size (w.heap.size + 1) (w.heap.size + 1 + 1) W H GA PA gc pc G P s A c t B d V.heap.size := ⟨x0.below hBU, x1.below hBU, x2.below hBU, (hg.below BU).more BU.size, (hp.below BU).more BU.size, (hS.below BU).more BU.size, (hT.below BU).more BU.size, Sl.of_box u0 rfl, ht.kept BU⟩
  obtain ⟨b0, b1, b2, b3, b4, b5, b6, b7⟩ := x1.c8
  obtain ⟨d0, d1, d2, d3, d4, d5, d6, d7⟩ := x2.c8
  obtain ⟨c0, c1, c2, c3⟩ := iw.bt.c4
  have hV := HW.out
  have hU := HU.out
  go_enter Tryz.func7, Tryz.ntmps7
  go_wp2_with fail
  clear hV hU c0 c1 c2 c3 b0 b1 b2 b3 b4 b5 b6 b7 d0 d1 d2 d3 d4 d5 d6 d7 x0 x1 x2 u0
  refine (lsmall_any W H GA PA gc pc G.length P.length (some ⟨V.heap.size, 0, none⟩) 2 [⟨s, A, c⟩, ⟨t, B, d⟩] U iw.l (by simp)).mono ?_
  rintro e w1 ⟨rfl, hb1⟩
  rw [show ([⟨s, A, c⟩, ⟨t, B, d⟩] : List SE).map (·.s) = [s, t] from rfl]
  have B1 := after_ BU hb1
  replace iw := iw.below hb1
  cases hsm : M.small W H G.length P.length 49 [s, t] with
  | false =>
    go_wp2_with fail
    refine (known_any w1 iw.tab).mono ?_
    rintro e w2 ⟨rfl, hb2⟩
    go_wp2_with fail
    go_ret
    exact ⟨rfl, after_ B1 hb2⟩
  | true =>
    obtain ⟨hgl, hpl, hl1, hl2⟩ := M.small_le hsm
    clear hsm
    obtain ⟨c0, c1, c2, c3⟩ := iw.bt.c4
    go_wp2_with fail
    clear c0 c1 c2 c3
    refine (rAllowed15_any W H GA PA gc pc G P (some ⟨V.heap.size, 0, none⟩) 2 [⟨s, A, c⟩, ⟨t, B, d⟩] w1 iw.g iw.p iw.l (pats2 iw.s1 iw.t1) (by omega) (by simp) (pl2 (by omega) (by omega))).mono ?_
    rintro e w2 ⟨rfl, hb2⟩
    rw [show ([⟨s, A, c⟩, ⟨t, B, d⟩] : List SE).map (·.s) = [s, t] from rfl]
    have B2 := after_ B1 hb2
    replace iw := iw.below hb2
    obtain ⟨d0, d1, d2, d3, d4, d5, d6, d7⟩ := iw.bb.c8
    cases hal : M.allowed W H G P [s, t] with
    | false =>
      go_wp2_with fail
      refine (known_any w2 iw.tab).mono ?_
      rintro e wk ⟨rfl, hbk⟩
      go_wp2_with fail
      go_ret
      exact ⟨rfl, after_ B2 hbk⟩
    | true =>
      obtain ⟨hos, hot⟩ := M.allowed2.1 hal
      obtain ⟨hsv, htv, -, -⟩ := M.okS_iff.1 hot
      obtain ⟨r1, r2, r3, r4, r5, r6⟩ := M.tvalid_iff.1 htv
      have hpw := (M.svalid_iff.1 hsv).2.2.2.1
      clear hal
      by_cases g1 : more < 0
      · have p1 : decide (more < 0) = true := decide_eq_true g1
        go_wp2_with fail
        refine (known_any w2 iw.tab).mono ?_
        rintro e wk ⟨rfl, hbk⟩
        go_wp2_with fail
        go_ret
        exact ⟨rfl, after_ B2 hbk⟩
      have p1 : decide (more < 0) = false := decide_eq_false g1
      by_cases g2 : 300 - t.pw < more
      · have p2 : decide (300 - t.pw < more) = true := decide_eq_true g2
        go_wp2_with fail
        refine (known_any w2 iw.tab).mono ?_
        rintro e wk ⟨rfl, hbk⟩
        go_wp2_with fail
        go_ret
        exact ⟨rfl, after_ B2 hbk⟩
      have p2 : decide (300 - t.pw < more) = false := decide_eq_false g2
      have hst := M.strg_ok (more := more) hot (by omega) (by omega)
      have HOS := Lib.hid hos
      have HOT := Lib.hid hot
      have HST := Lib.hid hst
      obtain ⟨wh1, wh2⟩ := M.wh_le r1 r2
      have hla : (M.area W H G s).length ≤ 4096 := Nat.le_trans M.area_len (by omega)
      have hl0 : (M.lost W H G s 30 [t]).length ≤ 4096 := M.lost_len4 htv
      have hl1 : (M.lost W H G s (-46) [t]).length ≤ 4096 := M.lost_len4 htv
      have hl3 : (M.lost W H G s 30 [M.strg t more]).length ≤ 4096 := M.lost_len4 htv
      have HB0 := Lib.hid (M.lost_both_area W H G s 30 [t])
      have HB1 := Lib.hid (M.lost_both_ratio W H G s t (r := -46) (r' := 30) (by omega))
      have HB2 := Lib.hid (M.lost_both_strong W H G s t 30 (more := more) (by omega))
      have HTL := Lib.hid (M.lost_total_le (W := W) (H := H) (G := G) (P := P) (a := s) (r := 30) (l := [t]) r6)
      have HIN := Lib.hid (M.lost_in (W := W) (H := H) (G := G) (a := s) (r := 30) (l := [t]))
      have HR6 := Lib.hid r6
      have kZ : Hid (∀ o : Int, M.okOff o = true → ∀ w2, IW w2 w.heap.size (w.heap.size + 1) (w.heap.size + 1 + 1) W H GA PA gc pc G P s A c t B d V.heap.size → Calls Tryz.prog 15 #[tv W H GA PA G.length gc P.length pc, stv s A c, stv t B d, .int .i64 o] w2 (RetL 1 icell w2 (M.lost W H G s (M.ratio o) [t]) 0)) := Lib.hid (fun o ho w2 iw2 => by
              have k := icells_any W H GA PA gc pc G P s t A B c d o w2 iw2.tab iw2.g iw2.p iw2.s1 iw2.t1 (by omega) (by omega) (by omega) (by omega)
              unfold M.lostR at k
              rw [show M.lostOk W H G P s o [t] = true by unfold M.lostOk; simp [ho, hos, hot], if_pos rfl] at k
              exact k)
      have k0z : Hid (∀ w2, IW w2 w.heap.size (w.heap.size + 1) (w.heap.size + 1 + 1) W H GA PA gc pc G P s A c t B d V.heap.size → Calls Tryz.prog 15 #[tv W H GA PA G.length gc P.length pc, stv s A c, stv t B d, .int .i64 0] w2 (RetL 1 icell w2 (M.lost W H G s 30 [t]) 0)) := Lib.hid (fun w2 iw2 => kZ.out 0 rfl w2 iw2)
      have k1u : Hid (∀ w2, IW w2 w.heap.size (w.heap.size + 1) (w.heap.size + 1 + 1) W H GA PA gc pc G P s A c t B d V.heap.size → Calls Tryz.prog 15 #[tv W H GA PA G.length gc P.length pc, stv s A c, stv t B d, .int .i64 1] w2 (RetL 1 icell w2 (M.lost W H G s (-46) [t]) 0)) := Lib.hid (fun w2 iw2 => kZ.out 1 rfl w2 iw2)
      have k2d : Hid (∀ w2, IW w2 w.heap.size (w.heap.size + 1) (w.heap.size + 1 + 1) W H GA PA gc pc G P s A c t B d V.heap.size → Calls Tryz.prog 15 #[tv W H GA PA G.length gc P.length pc, stv s A c, stv t B d, .int .i64 (-1)] w2 (RetL 1 icell w2 (M.lost W H G s (-46) [t]) 0)) := Lib.hid (fun w2 iw2 => kZ.out (-1) rfl w2 iw2)
      have kPe : Hid (∀ w2, IW w2 w.heap.size (w.heap.size + 1) (w.heap.size + 1 + 1) W H GA PA gc pc G P s A c t B d V.heap.size → Calls Tryz.prog 16 #[tv W H GA PA G.length gc P.length pc, stv s A c, stv t B d, .int .i64 0] w2 fun e w' => e = .returned (.tuple #[.int .i64 (M.total P (M.lost W H G s 30 [t])), .int .i64 0]) ∧ Below w2.heap.size w2 w') := Lib.hid (fun w2 iw2 => by
              have k := ipeople_any W H GA PA gc pc G P s t A B c d 0 w2 iw2.tab iw2.g iw2.p iw2.s1 iw2.t1 (by omega) (by omega) (by omega) (by omega)
              unfold M.peoR at k
              rw [show M.lostOk W H G P s 0 [t] = true by unfold M.lostOk; simp [hos, hot]; rfl, if_pos rfl] at k
              exact k)
      have kEx : Hid (∀ w2, IW w2 w.heap.size (w.heap.size + 1) (w.heap.size + 1 + 1) W H GA PA gc pc G P s A c t B d V.heap.size → Calls Tryz.prog 20 #[tv W H GA PA G.length gc P.length pc, stv s A c, stv t B d, .int .i64 0, .int .i64 1000] w2 fun e w' => e = .returned (.tuple #[.bool false, .int .i64 0]) ∧ Below w2.heap.size w2 w') := Lib.hid (fun w2 iw2 => by
              have k := iexceeds_any W H GA PA gc pc G P s t A B c d 0 1000 w2 iw2.tab iw2.g iw2.p iw2.s1 iw2.t1 (by omega) (by omega) (by omega) (by omega)
              unfold M.excR at k
              rw [show M.lostOk W H G P s 0 [t] = true by unfold M.lostOk; simp [hos, hot]; rfl, if_pos (by decide), decide_eq_false (by have := HTL.out; show ¬ (1000 * M.total P (M.area W H G s) < 1000 * M.total P (M.lost W H G s 30 [t])); omega)] at k
              exact k)
      have kS : Hid (∀ w2, IW w2 w.heap.size (w.heap.size + 1) (w.heap.size + 1 + 1) W H GA PA gc pc G P s A c t B d V.heap.size → Calls Tryz.prog 15 #[tv W H GA PA G.length gc P.length pc, stv s A c, stv (M.strg t more) B d, .int .i64 0] w2 (RetL 1 icell w2 (M.lost W H G s 30 [M.strg t more]) 0)) := Lib.hid (fun w2 iw2 => by
              have k := icells_any W H GA PA gc pc G P s (M.strg t more) A B c d 0 w2 iw2.tab iw2.g iw2.p iw2.s1 iw2.t1 (by omega) (by omega) (by omega) (show t.pat.length ≤ 1000 by omega)
              unfold M.lostR at k
              rw [show M.lostOk W H G P s 0 [M.strg t more] = true by unfold M.lostOk; simp [hos, hst]; rfl, if_pos rfl] at k
              exact k)
      clear d0 d1 d2 d3 d4 d5 d6 d7
      obtain ⟨c0, c1, c2, c3⟩ := iw.bt.c4
      obtain ⟨b0, b1, b2, b3, b4, b5, b6, b7⟩ := iw.ba.c8
      obtain ⟨d0, d1, d2, d3, d4, d5, d6, d7⟩ := iw.bb.c8
      go_wp2_with fail
      clear c0 c1 c2 c3 b0 b1 b2 b3 b4 b5 b6 b7 d0 d1 d2 d3 d4 d5 d6 d7
      clear p1 p2
      refine (rArea_ok W H GA PA gc pc G P s A c w2 iw.g iw.s1 hos).mono ?_
      rintro e w3 ⟨RA, rc, rfl, hRA, hb3⟩
      have B3 := after_ B2 hb3
      replace iw := iw.below hb3
      obtain ⟨X, HX, o0, hbX, -⟩ := boxes1 w3 (stc t B d) 28
      have o1 : Box (X.setCell ⟨w3.heap.size, 3, none⟩ (.int .i64 (t.pw + more))) w3.heap.size (stc (M.strg t more) B d) 28 := o0.set 3 (.int .i64 (t.pw + more))
      obtain ⟨Y, HY⟩ : ∃ Y, Hid (X.setCell ⟨w3.heap.size, 3, none⟩ (.int .i64 (t.pw + more)) = Y) := ⟨_, Lib.hid rfl⟩
      have bY : Below w3.heap.size w3 Y := by rw [← HY.out]; exact hbX.setCell (p := ⟨w3.heap.size, 3, none⟩) (Nat.le_refl _) _
      rw [HY.out] at o1
      have f3 := o0.frozen 3
      obtain ⟨k0, k1, k2, k3, k4, k5, k6, k7⟩ := o0.c8
      have jj := ((iw.bb.below hbX).c8).2.2.2.1
      obtain ⟨d0, d1, d2, d3, d4, d5, d6, d7⟩ := iw.bb.c8
      have hX := HX.out
      have hY := HY.out
      have B4 := after_ B3 bY
      replace iw := iw.below bY
      replace hRA := (hRA.below bY).more bY.size
      obtain ⟨c0, c1, c2, c3⟩ := iw.bt.c4
      obtain ⟨b0, b1, b2, b3, b4, b5, b6, b7⟩ := iw.ba.c8
      obtain ⟨g0, g1, g2, g3, g4, g5, g6, g7⟩ := iw.bb.c8
      go_wp2_with fail
      clear hX hY k0 k1 k2 k3 k4 k5 k6 k7 jj f3 d0 d1 d2 d3 d4 d5 d6 d7 c0 c1 c2 c3 b0 b1 b2 b3 b4 b5 b6 b7 g0 g1 g2 g3 g4 g5 g6 g7
      refine (k0z.out Y iw).mono ?_
      rintro e w5 ⟨ZA, zc, rfl, hZA, hb5⟩
      have B5 := after_ B4 hb5
      replace iw := iw.below hb5
      replace hRA := (hRA.below hb5).more hb5.size
      replace o1 := o1.below hb5
      obtain ⟨c0, c1, c2, c3⟩ := iw.bt.c4
      obtain ⟨b0, b1, b2, b3, b4, b5, b6, b7⟩ := iw.ba.c8
      obtain ⟨d0, d1, d2, d3, d4, d5, d6, d7⟩ := iw.bb.c8
      go_wp2_with fail
      clear c0 c1 c2 c3 b0 b1 b2 b3 b4 b5 b6 b7 d0 d1 d2 d3 d4 d5 d6 d7
      refine (k1u.out w5 iw).mono ?_
      rintro e w6 ⟨UA, uc, rfl, hUA, hb6⟩
      have B6 := after_ B5 hb6
      replace iw := iw.below hb6
      replace hRA := (hRA.below hb6).more hb6.size
      replace hZA := (hZA.below hb6).more hb6.size
      replace o1 := o1.below hb6
      obtain ⟨c0, c1, c2, c3⟩ := iw.bt.c4
      obtain ⟨b0, b1, b2, b3, b4, b5, b6, b7⟩ := iw.ba.c8
      obtain ⟨d0, d1, d2, d3, d4, d5, d6, d7⟩ := iw.bb.c8
      go_wp2_with fail
      clear c0 c1 c2 c3 b0 b1 b2 b3 b4 b5 b6 b7 d0 d1 d2 d3 d4 d5 d6 d7
      refine (k2d.out w6 iw).mono ?_
      rintro e w7 ⟨DA, dc, rfl, hDA, hb7⟩
      have B7 := after_ B6 hb7
      replace iw := iw.below hb7
      replace hRA := (hRA.below hb7).more hb7.size
      replace hZA := (hZA.below hb7).more hb7.size
      replace hUA := (hUA.below hb7).more hb7.size
      replace o1 := o1.below hb7
      obtain ⟨c0, c1, c2, c3⟩ := iw.bt.c4
      obtain ⟨b0, b1, b2, b3, b4, b5, b6, b7⟩ := iw.ba.c8
      obtain ⟨d0, d1, d2, d3, d4, d5, d6, d7⟩ := iw.bb.c8
      obtain ⟨g0, g1, g2, g3, g4, g5, g6, g7⟩ := o1.c8
      go_wp2_with fail
      clear c0 c1 c2 c3 b0 b1 b2 b3 b4 b5 b6 b7 d0 d1 d2 d3 d4 d5 d6 d7
      refine (kS.out w7 iw).mono ?_
      rintro e w8 ⟨EA, ec, rfl, hEA, hb8⟩
      have B8 := after_ B7 hb8
      replace iw := iw.below hb8
      replace hRA := (hRA.below hb8).more hb8.size
      replace hZA := (hZA.below hb8).more hb8.size
      replace hUA := (hUA.below hb8).more hb8.size
      replace hDA := (hDA.below hb8).more hb8.size
      have e1 := same_any UA DA uc dc _ _ w8 hUA hDA (by omega)
      rw [decide_eq_true rfl] at e1
      go_wp2_with fail
      refine e1.mono ?_
      rintro e w9 ⟨rfl, hb9⟩
      have B9 := after_ B8 hb9
      replace iw := iw.below hb9
      replace hRA := (hRA.below hb9).more hb9.size
      replace hZA := (hZA.below hb9).more hb9.size
      replace hUA := (hUA.below hb9).more hb9.size
      replace hDA := (hDA.below hb9).more hb9.size
      replace hEA := (hEA.below hb9).more hb9.size
      go_wp2_with fail
      refine (rBoth_ok ZA RA zc rc _ _ w9 hZA hRA (by omega) (by omega)).mono ?_
      rintro e w10 ⟨QA, qc, rfl, hQA, hb10⟩
      have B10 := after_ B9 hb10
      replace iw := iw.below hb10
      replace hRA := (hRA.below hb10).more hb10.size
      replace hZA := (hZA.below hb10).more hb10.size
      replace hUA := (hUA.below hb10).more hb10.size
      replace hDA := (hDA.below hb10).more hb10.size
      replace hEA := (hEA.below hb10).more hb10.size
      rw [HB0.out] at hQA ⊢
      have e1 := same_any QA ZA qc zc _ _ w10 hQA hZA (by omega)
      rw [decide_eq_true rfl] at e1
      go_wp2_with fail
      refine e1.mono ?_
      rintro e w11 ⟨rfl, hb11⟩
      have B11 := after_ B10 hb11
      replace iw := iw.below hb11
      replace hRA := (hRA.below hb11).more hb11.size
      replace hZA := (hZA.below hb11).more hb11.size
      replace hUA := (hUA.below hb11).more hb11.size
      replace hDA := (hDA.below hb11).more hb11.size
      replace hEA := (hEA.below hb11).more hb11.size
      go_wp2_with fail
      refine (rBoth_ok UA ZA uc zc _ _ w11 hUA hZA (by omega) (by omega)).mono ?_
      rintro e w12 ⟨QA, qc, rfl, hQA, hb12⟩
      have B12 := after_ B11 hb12
      replace iw := iw.below hb12
      replace hRA := (hRA.below hb12).more hb12.size
      replace hZA := (hZA.below hb12).more hb12.size
      replace hUA := (hUA.below hb12).more hb12.size
      replace hDA := (hDA.below hb12).more hb12.size
      replace hEA := (hEA.below hb12).more hb12.size
      rw [HB1.out] at hQA ⊢
      have e1 := same_any QA UA qc uc _ _ w12 hQA hUA (by omega)
      rw [decide_eq_true rfl] at e1
      go_wp2_with fail
      refine e1.mono ?_
      rintro e w13 ⟨rfl, hb13⟩
      have B13 := after_ B12 hb13
      replace iw := iw.below hb13
      replace hRA := (hRA.below hb13).more hb13.size
      replace hZA := (hZA.below hb13).more hb13.size
      replace hUA := (hUA.below hb13).more hb13.size
      replace hDA := (hDA.below hb13).more hb13.size
      replace hEA := (hEA.below hb13).more hb13.size
      go_wp2_with fail
      refine (rBoth_ok ZA EA zc ec _ _ w13 hZA hEA (by omega) (by omega)).mono ?_
      rintro e w14 ⟨QA, qc, rfl, hQA, hb14⟩
      have B14 := after_ B13 hb14
      replace iw := iw.below hb14
      replace hRA := (hRA.below hb14).more hb14.size
      replace hZA := (hZA.below hb14).more hb14.size
      replace hUA := (hUA.below hb14).more hb14.size
      replace hDA := (hDA.below hb14).more hb14.size
      replace hEA := (hEA.below hb14).more hb14.size
      rw [HB2.out] at hQA ⊢
      have e1 := same_any QA ZA qc zc _ _ w14 hQA hZA (by omega)
      rw [decide_eq_true rfl] at e1
      go_wp2_with fail
      refine e1.mono ?_
      rintro e w15 ⟨rfl, hb15⟩
      have B15 := after_ B14 hb15
      replace iw := iw.below hb15
      replace hRA := (hRA.below hb15).more hb15.size
      replace hZA := (hZA.below hb15).more hb15.size
      replace hUA := (hUA.below hb15).more hb15.size
      replace hDA := (hDA.below hb15).more hb15.size
      replace hEA := (hEA.below hb15).more hb15.size
      obtain ⟨c0, c1, c2, c3⟩ := iw.bt.c4
      obtain ⟨b0, b1, b2, b3, b4, b5, b6, b7⟩ := iw.ba.c8
      obtain ⟨d0, d1, d2, d3, d4, d5, d6, d7⟩ := iw.bb.c8
      go_wp2_with fail
      clear c0 c1 c2 c3 b0 b1 b2 b3 b4 b5 b6 b7 d0 d1 d2 d3 d4 d5 d6 d7
      refine (kPe.out w15 iw).mono ?_
      rintro e w16 ⟨rfl, hb16⟩
      have B16 := after_ B15 hb16
      replace iw := iw.below hb16
      replace hRA := (hRA.below hb16).more hb16.size
      replace hZA := (hZA.below hb16).more hb16.size
      replace hUA := (hUA.below hb16).more hb16.size
      replace hDA := (hDA.below hb16).more hb16.size
      replace hEA := (hEA.below hb16).more hb16.size
      obtain ⟨c0, c1, c2, c3⟩ := iw.bt.c4
      go_wp2_with fail
      clear c0 c1 c2 c3
      refine (rTot_ok W H GA PA gc pc G.length P ZA zc _ w16 iw.p hZA r1 r2 r4 HR6.out (by omega) HIN.out).mono ?_
      rintro e w17 ⟨rfl, hb17⟩
      have B17 := after_ B16 hb17
      replace iw := iw.below hb17
      replace hRA := (hRA.below hb17).more hb17.size
      replace hZA := (hZA.below hb17).more hb17.size
      replace hUA := (hUA.below hb17).more hb17.size
      replace hDA := (hDA.below hb17).more hb17.size
      replace hEA := (hEA.below hb17).more hb17.size
      obtain ⟨c0, c1, c2, c3⟩ := iw.bt.c4
      obtain ⟨b0, b1, b2, b3, b4, b5, b6, b7⟩ := iw.ba.c8
      obtain ⟨d0, d1, d2, d3, d4, d5, d6, d7⟩ := iw.bb.c8
      go_wp2_with fail
      clear c0 c1 c2 c3 b0 b1 b2 b3 b4 b5 b6 b7 d0 d1 d2 d3 d4 d5 d6 d7
      refine (kEx.out w17 iw).mono ?_
      rintro e w18 ⟨rfl, hb18⟩
      have B18 := after_ B17 hb18
      replace iw := iw.below hb18
      replace hRA := (hRA.below hb18).more hb18.size
      replace hZA := (hZA.below hb18).more hb18.size
      replace hUA := (hUA.below hb18).more hb18.size
      replace hDA := (hDA.below hb18).more hb18.size
      replace hEA := (hEA.below hb18).more hb18.size
      generalize M.total P (M.lost W H G s 30 [t]) = tl at *
      have q9 : (tl == tl) = true := by simp
      go_wp2_with fail
      refine (known_any w18 iw.tab).mono ?_
      rintro e wk ⟨rfl, hbk⟩
      go_wp2_with fail
      go_ret
      exact ⟨rfl, after_ B18 hbk⟩
end Go.Proofs.YtohkbblfcjmmnaaGreatDoor
