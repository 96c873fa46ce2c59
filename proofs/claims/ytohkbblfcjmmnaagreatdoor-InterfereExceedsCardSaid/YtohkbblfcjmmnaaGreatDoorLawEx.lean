/- The walk of the law InterfereExceeds. -/
import Derived.Test.YtohkbblfcjmmnaaGreatDoorLawCe
namespace Go.Proofs.YtohkbblfcjmmnaaGreatDoor
open Go Go.RowKit
set_option maxRecDepth 100000

theorem IW.held {w' : World} {b0 b1 b2 : Nat} {W H : Int} {GA PA : Option Addr} {gc pc : Nat} {G P : List Int} {s : St} {A : Option Addr} {c : Nat} {t : St} {B : Option Addr} {d L : Nat} (h : IW w' b0 b1 b2 W H GA PA gc pc G P s A c t B d L) :
    w'.cell? ⟨b0, 0, none⟩ = some (.int .i64 W) ∧ w'.cell? ⟨b0, 1, none⟩ = some (.int .i64 H) ∧ w'.cell? ⟨b0, 2, none⟩ = some (.slice GA G.length gc) ∧ w'.cell? ⟨b0, 3, none⟩ = some (.slice PA P.length pc) ∧ w'.cell? ⟨b1, 0, none⟩ = some (.int .i64 s.id) ∧ w'.cell? ⟨b1, 1, none⟩ = some (.int .i64 s.x) ∧ w'.cell? ⟨b1, 2, none⟩ = some (.int .i64 s.y) ∧ w'.cell? ⟨b1, 3, none⟩ = some (.int .i64 s.pw) ∧ w'.cell? ⟨b1, 4, none⟩ = some (.int .i64 s.h) ∧ w'.cell? ⟨b1, 5, none⟩ = some (.slice A s.pat.length c) ∧ w'.cell? ⟨b1, 6, none⟩ = some (.int .i64 s.band) ∧ w'.cell? ⟨b1, 7, none⟩ = some (.int .i64 s.ch) ∧ w'.cell? ⟨b2, 0, none⟩ = some (.int .i64 t.id) ∧ w'.cell? ⟨b2, 1, none⟩ = some (.int .i64 t.x) ∧ w'.cell? ⟨b2, 2, none⟩ = some (.int .i64 t.y) ∧ w'.cell? ⟨b2, 3, none⟩ = some (.int .i64 t.pw) ∧ w'.cell? ⟨b2, 4, none⟩ = some (.int .i64 t.h) ∧ w'.cell? ⟨b2, 5, none⟩ = some (.slice B t.pat.length d) ∧ w'.cell? ⟨b2, 6, none⟩ = some (.int .i64 t.band) ∧ w'.cell? ⟨b2, 7, none⟩ = some (.int .i64 t.ch) := by
  obtain ⟨c0, c1, c2, c3⟩ := h.bt.c4
  obtain ⟨x0, x1, x2, x3, x4, x5, x6, x7⟩ := h.ba.c8
  obtain ⟨y0, y1, y2, y3, y4, y5, y6, y7⟩ := h.bb.c8
  exact ⟨c0, c1, c2, c3, x0, x1, x2, x3, x4, x5, x6, x7, y0, y1, y2, y3, y4, y5, y6, y7⟩

set_option maxHeartbeats 32000000 in
theorem interfereExceeds_walk (W H : Int) (GA PA : Option Addr) (gc pc : Nat) (G P : List Int) (s : St) (A : Option Addr) (c : Nat) (t : St) (B : Option Addr) (d : Nat) (o sh : Int) (w : World) (ht : Tab w) (hg : Sl 1 icell w w.heap.size GA G) (hp : Sl 1 icell w w.heap.size PA P) (hS : Sl 1 icell w w.heap.size A s.pat) (hT : Sl 1 icell w w.heap.size B t.pat) :
    Calls Tryz.prog 5 #[tv W H GA PA G.length gc P.length pc, stv s A c, stv t B d, .int .i64 o, .int .i64 sh] w (LawTrue w) := by
  obtain ⟨V, HW, x0, x1, x2, hB, -⟩ := boxes3 w #[.int .i64 W, .int .i64 H, .slice GA G.length gc, .slice PA P.length pc] 24 (stc s A c) 28 (stc t B d) 28
  obtain ⟨U, HU, u0, hBU, -⟩ := boxes1 V #[.int .i64 s.id, .int .i64 s.x, .int .i64 s.y, .int .i64 s.pw, .int .i64 s.h, .slice A s.pat.length c, .int .i64 s.band, .int .i64 s.ch, .int .i64 t.id, .int .i64 t.x, .int .i64 t.y, .int .i64 t.pw, .int .i64 t.h, .slice B t.pat.length d, .int .i64 t.band, .int .i64 t.ch] 28
  have BU := after_ hB hBU
  have iw : IW U w.heap.size (w.heap.size + 1) (w.heap.size + 1 + 1) W H GA PA gc pc G P s A c t B d V.heap.size := ⟨x0.below hBU, x1.below hBU, x2.below hBU, (hg.below BU).more BU.size, (hp.below BU).more BU.size, (hS.below BU).more BU.size, (hT.below BU).more BU.size, Sl.of_box u0 rfl, ht.kept BU⟩
  obtain ⟨b0, b1, b2, b3, b4, b5, b6, b7⟩ := x1.c8
  obtain ⟨d0, d1, d2, d3, d4, d5, d6, d7⟩ := x2.c8
  obtain ⟨c0, c1, c2, c3⟩ := iw.bt.c4
  have hV := HW.out
  have hU := HU.out
  go_enter Tryz.func5, Tryz.ntmps5
  go_wp2_with fail
  clear hV hU c0 c1 c2 c3 b0 b1 b2 b3 b4 b5 b6 b7 d0 d1 d2 d3 d4 d5 d6 d7 x0 x1 x2 u0
  refine (lsmall_any W H GA PA gc pc G.length P.length (some ⟨V.heap.size, 0, none⟩) 2 [⟨s, A, c⟩, ⟨t, B, d⟩] U iw.l (by simp)).mono ?_
  rintro e w1 ⟨rfl, hb1⟩
  rw [show ([⟨s, A, c⟩, ⟨t, B, d⟩] : List SE).map (·.s) = [s, t] from rfl]
  have B1 := after_ BU hb1
  replace iw := iw.below hb1
  cases hsm : M.small W H G.length P.length 49 [s, t] with
  | false =>
    go_wp2_with fail
    refine (known_any w1 iw.tab).mono ?_
    rintro e w2 ⟨rfl, hb2⟩
    go_wp2_with fail
    go_ret
    exact ⟨rfl, after_ B1 hb2⟩
  | true =>
    obtain ⟨hgl, hpl, hl1, hl2⟩ := M.small_le hsm
    clear hsm
    have kE := iexceeds_any W H GA PA gc pc G P s t A B c d o sh w1 iw.tab iw.g iw.p iw.s1 iw.t1 (by omega) (by omega) (by omega) (by omega)
    obtain ⟨h1, h2, hh⟩ : ∃ h1 h2, M.excR W H G P s t o sh = (h1, h2) := ⟨_, _, rfl⟩
    rw [hh] at kE
    simp only at kE
    unfold M.excR at hh
    rw [M.lostOk2] at hh
    have HH := Lib.hid hh
    clear hh
    obtain ⟨c0, c1, c2, c3⟩ := iw.bt.c4
    obtain ⟨b0, b1, b2, b3, b4, b5, b6, b7⟩ := iw.ba.c8
    obtain ⟨d0, d1, d2, d3, d4, d5, d6, d7⟩ := iw.bb.c8
    go_wp2_with fail
    refine kE.mono ?_
    rintro e w2 ⟨rfl, hb2⟩
    have B2 := after_ B1 hb2
    replace iw := iw.below hb2
    clear c0 c1 c2 c3 b0 b1 b2 b3 b4 b5 b6 b7 d0 d1 d2 d3 d4 d5 d6 d7 kE
    obtain ⟨c0, c1, c2, c3⟩ := iw.bt.c4
    go_wp2_with fail
    refine (rAllowed15_any W H GA PA gc pc G P (some ⟨V.heap.size, 0, none⟩) 2 [⟨s, A, c⟩, ⟨t, B, d⟩] w2 iw.g iw.p iw.l (pats2 iw.s1 iw.t1) (by omega) (by simp) (pl2 (by omega) (by omega))).mono ?_
    rintro e w3 ⟨rfl, hb3⟩
    rw [show ([⟨s, A, c⟩, ⟨t, B, d⟩] : List SE).map (·.s) = [s, t] from rfl]
    have B3 := after_ B2 hb3
    replace iw := iw.below hb3
    clear c0 c1 c2 c3
    have HNO : Hid ((M.isIn sh 0 1000 && (M.okOff o && M.allowed W H G P [s, t])) = false → h1 = false ∧ h2 = 2) := Lib.hid (fun h => by
      have := HH.out
      rw [h, if_neg (by decide)] at this
      exact ⟨(Prod.mk.inj this).1.symm, (Prod.mk.inj this).2.symm⟩)
    cases hal : M.allowed W H G P [s, t] with
    | false =>
      obtain ⟨rfl, rfl⟩ := HNO.out (by rw [hal, Bool.and_false, Bool.and_false])
      clear hal HH HNO
      go_wp2_with fail
      refine (known_any w3 iw.tab).mono ?_
      rintro e w4 ⟨rfl, hb4⟩
      go_wp2_with fail
      go_ret
      exact ⟨rfl, after_ B3 hb4⟩
    | true =>
      have HAL := Lib.hid hal
      clear hal
      by_cases g1 : o < -1
      · have p1 : decide (o < -1) = true := decide_eq_true g1
        obtain ⟨rfl, rfl⟩ := HNO.out (by rw [show M.okOff o = false by unfold M.okOff; exact decide_eq_false (by omega), Bool.false_and, Bool.and_false])
        clear HH HNO
        go_wp2_with fail
        refine (known_any w3 iw.tab).mono ?_
        rintro e w4 ⟨rfl, hb4⟩
        go_wp2_with fail
        go_ret
        exact ⟨rfl, after_ B3 hb4⟩
      have p1 : decide (o < -1) = false := decide_eq_false g1
      by_cases g2 : 1 < o
      · have p2 : decide (1 < o) = true := decide_eq_true g2
        obtain ⟨rfl, rfl⟩ := HNO.out (by rw [show M.okOff o = false by unfold M.okOff; exact decide_eq_false (by omega), Bool.false_and, Bool.and_false])
        clear HH HNO
        go_wp2_with fail
        refine (known_any w3 iw.tab).mono ?_
        rintro e w4 ⟨rfl, hb4⟩
        go_wp2_with fail
        go_ret
        exact ⟨rfl, after_ B3 hb4⟩
      have p2 : decide (1 < o) = false := decide_eq_false g2
      by_cases g3 : sh < 0
      · have p3 : decide (sh < 0) = true := decide_eq_true g3
        obtain ⟨rfl, rfl⟩ := HNO.out (by rw [show M.isIn sh 0 1000 = false by rw [Bool.eq_false_iff]; intro h; have := M.isIn_iff.1 h; omega, Bool.false_and])
        clear HH HNO
        go_wp2_with fail
        refine (known_any w3 iw.tab).mono ?_
        rintro e w4 ⟨rfl, hb4⟩
        go_wp2_with fail
        go_ret
        exact ⟨rfl, after_ B3 hb4⟩
      have p3 : decide (sh < 0) = false := decide_eq_false g3
      by_cases g4 : 1000 < sh
      · have p4 : decide (1000 < sh) = true := decide_eq_true g4
        obtain ⟨rfl, rfl⟩ := HNO.out (by rw [show M.isIn sh 0 1000 = false by rw [Bool.eq_false_iff]; intro h; have := M.isIn_iff.1 h; omega, Bool.false_and])
        clear HH HNO
        go_wp2_with fail
        refine (known_any w3 iw.tab).mono ?_
        rintro e w4 ⟨rfl, hb4⟩
        go_wp2_with fail
        go_ret
        exact ⟨rfl, after_ B3 hb4⟩
      have p4 : decide (1000 < sh) = false := decide_eq_false g4
      have HH2 := HH.out
      rw [HAL.out, show M.okOff o = true by unfold M.okOff; exact decide_eq_true (by omega), show M.isIn sh 0 1000 = true from M.isIn_iff.2 ⟨by omega, by omega⟩, if_pos (by decide)] at HH2
      obtain ⟨h3, rfl⟩ := Prod.mk.inj HH2
      clear HH2 HH HNO
      obtain ⟨hos, hot⟩ := M.allowed2.1 HAL.out
      obtain ⟨-, htv, -, -⟩ := M.okS_iff.1 hos
      obtain ⟨r1, r2, r3, r4, r5, r6⟩ := M.tvalid_iff.1 htv
      obtain ⟨wh1, wh2⟩ := M.wh_le r1 r2
      have hll : (M.lost W H G s (M.ratio o) [t]).length ≤ 4096 := M.lost_len4 htv
      have hla : (M.area W H G s).length ≤ 4096 := Nat.le_trans M.area_len (by omega)
      have t1 := M.total_bd (P := P) r6 hll
      have t2 := M.total_bd (P := P) r6 hla
      have t3 : 0 ≤ sh * M.total P (M.area W H G s) ∧ sh * M.total P (M.area W H G s) ≤ 4096000000000 := by
        have m1 := Int.mul_nonneg (show (0 : Int) ≤ sh by omega) t2.1
        have m2 := Int.mul_le_mul (show sh ≤ 1000 by omega) t2.2 t2.1 (by omega)
        exact ⟨m1, m2⟩
      have kC : Hid (∀ w2, IW w2 w.heap.size (w.heap.size + 1) (w.heap.size + 1 + 1) W H GA PA gc pc G P s A c t B d V.heap.size → Calls Tryz.prog 17 #[tv W H GA PA G.length gc P.length pc, stv s A c, stv t B d, .int .i64 o] w2 (RetS 1 icell w2 (M.lost W H G s (M.ratio o) [t]))) := Lib.hid (fun w2 iw2 => rCells15_ok W H GA PA gc pc G P s t A B c d o w2 iw2.g iw2.s1 iw2.t1 hos hot)
      have kA : Hid (∀ w2, IW w2 w.heap.size (w.heap.size + 1) (w.heap.size + 1 + 1) W H GA PA gc pc G P s A c t B d V.heap.size → Calls Tryz.prog 21 #[tv W H GA PA G.length gc P.length pc, stv s A c] w2 (RetS 1 icell w2 (M.area W H G s))) := Lib.hid (fun w2 iw2 => rArea_ok W H GA PA gc pc G P s A c w2 iw2.g iw2.s1 hos)
      have kP1 : Hid (∀ w2 RA rc, IW w2 w.heap.size (w.heap.size + 1) (w.heap.size + 1 + 1) W H GA PA gc pc G P s A c t B d V.heap.size → Sl 1 icell w2 w2.heap.size RA (M.lost W H G s (M.ratio o) [t]) → Calls Tryz.prog 19 #[tv W H GA PA G.length gc P.length pc, .slice RA (M.lost W H G s (M.ratio o) [t]).length rc] w2 fun e w' => e = .returned (.int .i64 (M.total P (M.lost W H G s (M.ratio o) [t]))) ∧ Below w2.heap.size w2 w') := Lib.hid (fun w2 RA rc iw2 hR => rPeople15_ok W H GA PA gc pc G.length P RA rc _ w2 iw2.p hR r1 r2 r4 r6 (by omega) M.lost_in)
      have kP2 : Hid (∀ w2 RA rc, IW w2 w.heap.size (w.heap.size + 1) (w.heap.size + 1 + 1) W H GA PA gc pc G P s A c t B d V.heap.size → Sl 1 icell w2 w2.heap.size RA (M.area W H G s) → Calls Tryz.prog 19 #[tv W H GA PA G.length gc P.length pc, .slice RA (M.area W H G s).length rc] w2 fun e w' => e = .returned (.int .i64 (M.total P (M.area W H G s))) ∧ Below w2.heap.size w2 w') := Lib.hid (fun w2 RA rc iw2 hR => rPeople15_ok W H GA PA gc pc G.length P RA rc _ w2 iw2.p hR r1 r2 r4 r6 (by omega) M.area_in)
      have H3 := Lib.hid h3
      clear h3 hos hot htv r3 r5 r6 hll hla r1 r2 r4 wh1 wh2
      generalize M.total P (M.lost W H G s (M.ratio o) [t]) = tl at *
      generalize M.total P (M.area W H G s) = ta at *
      generalize M.lost W H G s (M.ratio o) [t] = ls at *
      generalize M.area W H G s = ar at *
      obtain ⟨c0, c1, c2, c3⟩ := iw.bt.c4
      go_wp2_with fail
      clear c0 c1 c2 c3
      have iwd := iw.below (Below.refl w3.heap.size w3).drew
      have Bd := B3.drew
      have K0 := iwd.held
      have K1 := iw.held
      have kK : ∀ wa, Below w3.drew.heap.size w3.drew wa → _ := fun wa hba => (iwd.below hba).held
      go_region_held3 (fun w' => w'.cell? ⟨w.heap.size, 0, none⟩ = some (.int .i64 W) ∧ w'.cell? ⟨w.heap.size, 1, none⟩ = some (.int .i64 H) ∧ w'.cell? ⟨w.heap.size, 2, none⟩ = some (.slice GA G.length gc) ∧ w'.cell? ⟨w.heap.size, 3, none⟩ = some (.slice PA P.length pc) ∧ w'.cell? ⟨w.heap.size + 1, 0, none⟩ = some (.int .i64 s.id) ∧ w'.cell? ⟨w.heap.size + 1, 1, none⟩ = some (.int .i64 s.x) ∧ w'.cell? ⟨w.heap.size + 1, 2, none⟩ = some (.int .i64 s.y) ∧ w'.cell? ⟨w.heap.size + 1, 3, none⟩ = some (.int .i64 s.pw) ∧ w'.cell? ⟨w.heap.size + 1, 4, none⟩ = some (.int .i64 s.h) ∧ w'.cell? ⟨w.heap.size + 1, 5, none⟩ = some (.slice A s.pat.length c) ∧ w'.cell? ⟨w.heap.size + 1, 6, none⟩ = some (.int .i64 s.band) ∧ w'.cell? ⟨w.heap.size + 1, 7, none⟩ = some (.int .i64 s.ch) ∧ w'.cell? ⟨w.heap.size + 1 + 1, 0, none⟩ = some (.int .i64 t.id) ∧ w'.cell? ⟨w.heap.size + 1 + 1, 1, none⟩ = some (.int .i64 t.x) ∧ w'.cell? ⟨w.heap.size + 1 + 1, 2, none⟩ = some (.int .i64 t.y) ∧ w'.cell? ⟨w.heap.size + 1 + 1, 3, none⟩ = some (.int .i64 t.pw) ∧ w'.cell? ⟨w.heap.size + 1 + 1, 4, none⟩ = some (.int .i64 t.h) ∧ w'.cell? ⟨w.heap.size + 1 + 1, 5, none⟩ = some (.slice B t.pat.length d) ∧ w'.cell? ⟨w.heap.size + 1 + 1, 6, none⟩ = some (.int .i64 t.band) ∧ w'.cell? ⟨w.heap.size + 1 + 1, 7, none⟩ = some (.int .i64 t.ch)) (first | exact K0 | exact K1 | exact kK _ (by assumption))
        (first
          | (go_at_call 17; (refine (kC.out _ iwd).mono ?_; rintro e wa ⟨RA, rc, rfl, hRs, hba⟩; have iwa := iwd.below hba; have m1 := kP1.out wa RA rc iwa hRs))
          | (go_at_call 19; ((with_reducible refine m1.mono ?_); rintro e wb ⟨rfl, hbb⟩; have hbB := after_ hba hbb; have iwb := iwd.below hbB))
          | (go_at_call 21; (refine (kA.out _ iwb).mono ?_; rintro e wc ⟨SA, sc, rfl, hSs, hbc⟩; have hbC := after_ hbB hbc; have iwc := iwd.below hbC; have m2 := kP2.out wc SA sc iwc hSs))
          | (go_at_call 19; ((with_reducible refine m2.mono ?_); rintro e wd ⟨rfl, hbd⟩; have hbD := after_ hbC hbd)))
      all_goals
        have B9 := after_ Bd hbD
        have iw9 := iwd.below hbD
        go_wp2_with fail
        refine (rExceeds_ok tl ta sh wd (by omega) (by omega)).mono ?_
        rintro e w5 ⟨rfl, rfl⟩
        rw [H3.out]
        have q9 : (h1 == h1) = true := by simp
        go_wp2_with fail
        refine (known_any wd iw9.tab).mono ?_
        rintro e w6 ⟨rfl, hb6⟩
        go_wp2_with fail
        go_ret
        exact ⟨rfl, after_ B9 hb6⟩
end Go.Proofs.YtohkbblfcjmmnaaGreatDoor
