/- A bundle of texts: LawAr, LawOv. -/
import Derived.Test.YtihepapjopcagaaGreatDoorB20
/- The walk of the law ServiceAreas. -/
section
namespace Go.Proofs.YtihepapjopcagaaGreatDoor
open Go Go.RowKit
set_option maxRecDepth 100000

theorem M.okF_own {W H : Int} {G P : List Int} {s : St} {cx cy : Int} (h : M.okF W H G P s cx cy = true) : M.okS W H G P s = true := by
  unfold M.okS
  rw [M.okF_eq] at h ⊢
  simp only [Bool.and_eq_true] at h ⊢
  exact ⟨h.1, h.1.2⟩

set_option maxHeartbeats 16000000 in
theorem serviceAreas_walk (W H : Int) (GA PA : Option Addr) (gc pc : Nat) (G P : List Int) (s : St) (A : Option Addr) (c : Nat) (cx cy : Int) (w : World) (ht : Tab w) (h64 : Tab64 w) (hg : Sl 1 icell w w.heap.size GA G) (hp : Sl 1 icell w w.heap.size PA P) (hS : Sl 1 icell w w.heap.size A s.pat) :
    Calls Tryz.prog 4 #[tv W H GA PA G.length gc P.length pc, stv s A c, cv cx cy] w fun e w' => e = .returned (.bool true) ∧ Below w.heap.size w w' := by
  obtain ⟨V, HW, x0, x1, cb, hB, -⟩ := boxes3 w #[.int .i64 W, .int .i64 H, .slice GA G.length gc, .slice PA P.length pc] 30 (stc s A c) 34 #[.int .i64 cx, .int .i64 cy] 36
  have lw : LW w V w.heap.size W H GA PA gc pc G P := ⟨x0, (hg.below hB).more hB.size, (hp.below hB).more hB.size, ht.kept hB, h64.kept hB, hB⟩
  have sw : SW V (w.heap.size + 1) s A c := ⟨x1, (hS.below hB).more hB.size⟩
  clear x0 x1
  obtain ⟨U, HU, u0, hbU, -⟩ := boxes1 V (stc s A c) 34
  obtain ⟨bg, hbig⟩ : ∃ bg, M.big G.length P.length [s] = bg := ⟨_, rfl⟩
  have kB := big14_any W H GA PA gc pc G.length P.length (some ⟨V.heap.size, 0, none⟩) 1 [⟨s, A, c⟩] U (Sl.of_box u0 rfl)
  rw [show ([⟨s, A, c⟩] : List SE).map (·.s) = [s] from rfl, hbig] at kB
  obtain ⟨c0, c1, c2, c3⟩ := lw.t.c4
  obtain ⟨b0, b1, b2, b3, b4, b5, b6, b7⟩ := sw.box.c8
  have hV := HW.out
  have hU := HU.out
  go_enter Tryz.func4, Tryz.ntmps4
  go_wp2_with fail
  clear hV hU c0 c1 c2 c3 b0 b1 b2 b3 b4 b5 b6 b7
  refine kB.mono ?_
  rintro e w1 ⟨rfl, hb1⟩
  have hb := after_ hbU hb1
  replace lw := lw.next hb
  replace sw := sw.next hb
  replace cb := cb.below hb
  clear hb hb1 hbU u0 kB hB
  cases bg with
  | true =>
    go_wp2_with fail
    refine lw.known.mono ?_
    rintro e x9 ⟨rfl, hb9⟩
    go_wp2_with fail
    go_ret
    exact ⟨rfl, hb9⟩
  | false =>
    obtain ⟨l1, l2, -, l3⟩ := M.big_no hbig
    have l4 := l3 s (by simp)
    clear l3 hbig
    cases hok : M.okS W H G P s with
    | false =>
      have hof : M.okF W H G P s cx cy = false := by
        cases h : M.okF W H G P s cx cy with
        | false => rfl
        | true => exact absurd ((M.okF_own h).symm.trans hok) (by simp)
      obtain ⟨c0, c1, c2, c3⟩ := lw.t.c4
      obtain ⟨b0, b1, b2, b3, b4, b5, b6, b7⟩ := sw.box.c8
      go_wp2_with fail
      clear c0 c1 c2 c3 b0 b1 b2 b3 b4 b5 b6 b7
      refine (area_no W H GA PA gc pc G P s A c _ lw.g lw.p sw.p (by omega) (by omega) (by omega) hok).mono ?_
      rintro e x1 ⟨rfl, hbx⟩
      replace lw := lw.next hbx
      replace sw := sw.next hbx
      replace cb := cb.below hbx
      clear hbx
      obtain ⟨c0, c1, c2, c3⟩ := lw.t.c4
      obtain ⟨b0, b1, b2, b3, b4, b5, b6, b7⟩ := sw.box.c8
      go_wp2_with fail
      clear c0 c1 c2 c3 b0 b1 b2 b3 b4 b5 b6 b7
      refine (people_no W H GA PA gc pc G P s A c _ lw.g lw.p sw.p (by omega) (by omega) (by omega) hok).mono ?_
      rintro e x2 ⟨rfl, hbx⟩
      replace lw := lw.next hbx
      replace sw := sw.next hbx
      replace cb := cb.below hbx
      clear hbx
      obtain ⟨c0, c1, c2, c3⟩ := lw.t.c4
      obtain ⟨b0, b1, b2, b3, b4, b5, b6, b7⟩ := sw.box.c8
      obtain ⟨d0, d1⟩ := cb.c2
      go_wp2_with fail
      clear c0 c1 c2 c3 b0 b1 b2 b3 b4 b5 b6 b7 d0 d1
      refine (covers_no W H GA PA gc pc G P s A c cx cy _ lw.g lw.p sw.p (by omega) (by omega) (by omega) hof).mono ?_
      rintro e x3 ⟨rfl, hbx⟩
      replace lw := lw.next hbx
      replace sw := sw.next hbx
      replace cb := cb.below hbx
      clear hbx
      obtain ⟨c0, c1, c2, c3⟩ := lw.t.c4
      obtain ⟨b0, b1, b2, b3, b4, b5, b6, b7⟩ := sw.box.c8
      obtain ⟨d0, d1⟩ := cb.c2
      go_wp2_with fail
      clear c0 c1 c2 c3 b0 b1 b2 b3 b4 b5 b6 b7 d0 d1
      refine (rAllowed_any W H GA PA gc pc G P s A c cx cy _ lw.g lw.p sw.p (by omega) (by omega)).mono ?_
      rintro e x4 ⟨rfl, hbx⟩
      replace lw := lw.next hbx
      replace sw := sw.next hbx
      replace cb := cb.below hbx
      clear hbx
      rw [hof]
      obtain ⟨c0, c1, c2, c3⟩ := lw.t.c4
      obtain ⟨b0, b1, b2, b3, b4, b5, b6, b7⟩ := sw.box.c8
      go_wp2_with fail
      clear c0 c1 c2 c3 b0 b1 b2 b3 b4 b5 b6 b7
      refine (rAllowed14_any W H GA PA gc pc G P s A c _ lw.g lw.p sw.p (by omega) (by omega)).mono ?_
      rintro e x5 ⟨rfl, hbx⟩
      replace lw := lw.next hbx
      replace sw := sw.next hbx
      replace cb := cb.below hbx
      clear hbx
      rw [hok]
      go_wp2_with fail
      refine lw.known.mono ?_
      rintro e x9 ⟨rfl, hb9⟩
      go_wp2_with fail
      go_ret
      exact ⟨rfl, hb9⟩
    | true =>
      cases hof : M.okF W H G P s cx cy with
      | false =>
        obtain ⟨c0, c1, c2, c3⟩ := lw.t.c4
        obtain ⟨b0, b1, b2, b3, b4, b5, b6, b7⟩ := sw.box.c8
        go_wp2_with fail
        clear c0 c1 c2 c3 b0 b1 b2 b3 b4 b5 b6 b7
        refine (area_ok W H GA PA gc pc G P s A c _ lw.tab lw.g lw.p sw.p hok).mono ?_
        rintro e x1 ⟨LA, lc, rfl, hL, hbx⟩
        replace lw := lw.next hbx
        replace sw := sw.next hbx
        replace cb := cb.below hbx
        clear hbx
        obtain ⟨c0, c1, c2, c3⟩ := lw.t.c4
        obtain ⟨b0, b1, b2, b3, b4, b5, b6, b7⟩ := sw.box.c8
        go_wp2_with fail
        clear c0 c1 c2 c3 b0 b1 b2 b3 b4 b5 b6 b7
        refine (people_ok W H GA PA gc pc G P s A c _ lw.tab lw.g lw.p sw.p hok).mono ?_
        rintro e x2 ⟨rfl, hbx⟩
        replace lw := lw.next hbx
        replace sw := sw.next hbx
        replace cb := cb.below hbx
        replace hL := (hL.below hbx).more hbx.size
        clear hbx
        obtain ⟨c0, c1, c2, c3⟩ := lw.t.c4
        obtain ⟨b0, b1, b2, b3, b4, b5, b6, b7⟩ := sw.box.c8
        obtain ⟨d0, d1⟩ := cb.c2
        go_wp2_with fail
        clear c0 c1 c2 c3 b0 b1 b2 b3 b4 b5 b6 b7 d0 d1
        refine (covers_no W H GA PA gc pc G P s A c cx cy _ lw.g lw.p sw.p (by omega) (by omega) (by omega) hof).mono ?_
        rintro e x3 ⟨rfl, hbx⟩
        replace lw := lw.next hbx
        replace sw := sw.next hbx
        replace cb := cb.below hbx
        replace hL := (hL.below hbx).more hbx.size
        clear hbx
        obtain ⟨c0, c1, c2, c3⟩ := lw.t.c4
        obtain ⟨b0, b1, b2, b3, b4, b5, b6, b7⟩ := sw.box.c8
        obtain ⟨d0, d1⟩ := cb.c2
        go_wp2_with fail
        clear c0 c1 c2 c3 b0 b1 b2 b3 b4 b5 b6 b7 d0 d1
        refine (rAllowed_any W H GA PA gc pc G P s A c cx cy _ lw.g lw.p sw.p (by omega) (by omega)).mono ?_
        rintro e x4 ⟨rfl, hbx⟩
        replace lw := lw.next hbx
        replace sw := sw.next hbx
        replace cb := cb.below hbx
        replace hL := (hL.below hbx).more hbx.size
        clear hbx
        rw [hof]
        obtain ⟨c0, c1, c2, c3⟩ := lw.t.c4
        obtain ⟨b0, b1, b2, b3, b4, b5, b6, b7⟩ := sw.box.c8
        go_wp2_with fail
        clear c0 c1 c2 c3 b0 b1 b2 b3 b4 b5 b6 b7
        refine (rAllowed14_any W H GA PA gc pc G P s A c _ lw.g lw.p sw.p (by omega) (by omega)).mono ?_
        rintro e x5 ⟨rfl, hbx⟩
        replace lw := lw.next hbx
        replace sw := sw.next hbx
        replace cb := cb.below hbx
        replace hL := (hL.below hbx).more hbx.size
        clear hbx
        rw [hok]
        obtain ⟨c0, c1, c2, c3⟩ := lw.t.c4
        obtain ⟨b0, b1, b2, b3, b4, b5, b6, b7⟩ := sw.box.c8
        go_wp2_with fail
        clear c0 c1 c2 c3 b0 b1 b2 b3 b4 b5 b6 b7
        refine (rArea_ok W H GA PA gc pc G P s A c _ lw.g sw.p hok).mono ?_
        rintro e x6 ⟨RA, rc, rfl, hR, hbx⟩
        replace lw := lw.next hbx
        replace sw := sw.next hbx
        replace cb := cb.below hbx
        replace hL := (hL.below hbx).more hbx.size
        clear hbx
        obtain ⟨-, htv, -, -⟩ := M.okS_iff.1 hok
        obtain ⟨r1, r2, r3, r4, r5, r6⟩ := M.tvalid_iff.1 htv
        have hwh := M.wh_le r1 r2
        have hal : (M.area W H G s).length ≤ 4096 := Nat.le_trans M.area_len (by omega)
        obtain ⟨c0, c1, c2, c3⟩ := lw.t.c4
        go_wp2_with fail
        clear c0 c1 c2 c3
        refine (rTot_ok W H GA PA gc pc G.length P RA rc (M.area W H G s) _ lw.p hR r1 r2 (by omega) r6 (by omega) M.area_in).mono ?_
        rintro e x7 ⟨rfl, hbx⟩
        replace lw := lw.next hbx
        replace sw := sw.next hbx
        replace cb := cb.below hbx
        replace hL := (hL.below hbx).more hbx.size
        replace hR := (hR.below hbx).more hbx.size
        clear hbx
        clear r3 r4 r5 r6 htv
        have kE := equal14_any LA RA lc rc (M.area W H G s) (M.area W H G s) _ hL hR (by omega)
        rw [decide_eq_true rfl] at kE
        generalize M.total P (M.area W H G s) = z
        generalize (M.area W H G s).length = nl at *
        go_wp2_with fail
        refine (kE).mono ?_
        rintro e x8 ⟨rfl, hbx⟩
        replace lw := lw.next hbx
        replace sw := sw.next hbx
        replace cb := cb.below hbx
        replace hL := (hL.below hbx).more hbx.size
        replace hR := (hR.below hbx).more hbx.size
        clear hbx
        clear kE
        go_wp2_with fail
        refine lw.known.mono ?_
        rintro e x9 ⟨rfl, hb9⟩
        go_wp2_with fail
        go_ret
        exact ⟨rfl, hb9⟩
      | true =>
        obtain ⟨c0, c1, c2, c3⟩ := lw.t.c4
        obtain ⟨b0, b1, b2, b3, b4, b5, b6, b7⟩ := sw.box.c8
        go_wp2_with fail
        clear c0 c1 c2 c3 b0 b1 b2 b3 b4 b5 b6 b7
        refine (area_ok W H GA PA gc pc G P s A c _ lw.tab lw.g lw.p sw.p hok).mono ?_
        rintro e x1 ⟨LA, lc, rfl, hL, hbx⟩
        replace lw := lw.next hbx
        replace sw := sw.next hbx
        replace cb := cb.below hbx
        clear hbx
        obtain ⟨c0, c1, c2, c3⟩ := lw.t.c4
        obtain ⟨b0, b1, b2, b3, b4, b5, b6, b7⟩ := sw.box.c8
        go_wp2_with fail
        clear c0 c1 c2 c3 b0 b1 b2 b3 b4 b5 b6 b7
        refine (people_ok W H GA PA gc pc G P s A c _ lw.tab lw.g lw.p sw.p hok).mono ?_
        rintro e x2 ⟨rfl, hbx⟩
        replace lw := lw.next hbx
        replace sw := sw.next hbx
        replace cb := cb.below hbx
        replace hL := (hL.below hbx).more hbx.size
        clear hbx
        obtain ⟨c0, c1, c2, c3⟩ := lw.t.c4
        obtain ⟨b0, b1, b2, b3, b4, b5, b6, b7⟩ := sw.box.c8
        obtain ⟨d0, d1⟩ := cb.c2
        go_wp2_with fail
        clear c0 c1 c2 c3 b0 b1 b2 b3 b4 b5 b6 b7 d0 d1
        refine (covers_ok W H GA PA gc pc G P s A c cx cy _ lw.tab lw.g lw.p sw.p hof).mono ?_
        rintro e x3 ⟨rfl, hbx⟩
        replace lw := lw.next hbx
        replace sw := sw.next hbx
        replace cb := cb.below hbx
        replace hL := (hL.below hbx).more hbx.size
        clear hbx
        obtain ⟨c0, c1, c2, c3⟩ := lw.t.c4
        obtain ⟨b0, b1, b2, b3, b4, b5, b6, b7⟩ := sw.box.c8
        obtain ⟨d0, d1⟩ := cb.c2
        go_wp2_with fail
        clear c0 c1 c2 c3 b0 b1 b2 b3 b4 b5 b6 b7 d0 d1
        refine (rAllowed_any W H GA PA gc pc G P s A c cx cy _ lw.g lw.p sw.p (by omega) (by omega)).mono ?_
        rintro e x4 ⟨rfl, hbx⟩
        replace lw := lw.next hbx
        replace sw := sw.next hbx
        replace cb := cb.below hbx
        replace hL := (hL.below hbx).more hbx.size
        clear hbx
        rw [hof]
        generalize hcv : M.cov W G s cx cy = cv0
        obtain ⟨c0, c1, c2, c3⟩ := lw.t.c4
        obtain ⟨b0, b1, b2, b3, b4, b5, b6, b7⟩ := sw.box.c8
        obtain ⟨d0, d1⟩ := cb.c2
        go_wp2_with fail
        clear c0 c1 c2 c3 b0 b1 b2 b3 b4 b5 b6 b7 d0 d1
        refine (rCovers_ok W H GA PA gc pc G P s A c cx cy _ lw.g sw.p hof).mono ?_
        rintro e x5 ⟨rfl, hbx⟩
        replace lw := lw.next hbx
        replace sw := sw.next hbx
        replace cb := cb.below hbx
        replace hL := (hL.below hbx).more hbx.size
        clear hbx
        rw [hcv]
        have qc : (cv0 != cv0) = false := by simp
        clear hcv
        obtain ⟨c0, c1, c2, c3⟩ := lw.t.c4
        obtain ⟨b0, b1, b2, b3, b4, b5, b6, b7⟩ := sw.box.c8
        go_wp2_with fail
        clear c0 c1 c2 c3 b0 b1 b2 b3 b4 b5 b6 b7
        refine (rAllowed14_any W H GA PA gc pc G P s A c _ lw.g lw.p sw.p (by omega) (by omega)).mono ?_
        rintro e x6 ⟨rfl, hbx⟩
        replace lw := lw.next hbx
        replace sw := sw.next hbx
        replace cb := cb.below hbx
        replace hL := (hL.below hbx).more hbx.size
        clear hbx
        rw [hok]
        obtain ⟨c0, c1, c2, c3⟩ := lw.t.c4
        obtain ⟨b0, b1, b2, b3, b4, b5, b6, b7⟩ := sw.box.c8
        go_wp2_with fail
        clear c0 c1 c2 c3 b0 b1 b2 b3 b4 b5 b6 b7
        refine (rArea_ok W H GA PA gc pc G P s A c _ lw.g sw.p hok).mono ?_
        rintro e x7 ⟨RA, rc, rfl, hR, hbx⟩
        replace lw := lw.next hbx
        replace sw := sw.next hbx
        replace cb := cb.below hbx
        replace hL := (hL.below hbx).more hbx.size
        clear hbx
        obtain ⟨-, htv, -, -⟩ := M.okS_iff.1 hok
        obtain ⟨r1, r2, r3, r4, r5, r6⟩ := M.tvalid_iff.1 htv
        have hwh := M.wh_le r1 r2
        have hal : (M.area W H G s).length ≤ 4096 := Nat.le_trans M.area_len (by omega)
        obtain ⟨c0, c1, c2, c3⟩ := lw.t.c4
        go_wp2_with fail
        clear c0 c1 c2 c3
        refine (rTot_ok W H GA PA gc pc G.length P RA rc (M.area W H G s) _ lw.p hR r1 r2 (by omega) r6 (by omega) M.area_in).mono ?_
        rintro e x8 ⟨rfl, hbx⟩
        replace lw := lw.next hbx
        replace sw := sw.next hbx
        replace cb := cb.below hbx
        replace hL := (hL.below hbx).more hbx.size
        replace hR := (hR.below hbx).more hbx.size
        clear hbx
        clear r3 r4 r5 r6 htv
        have kE := equal14_any LA RA lc rc (M.area W H G s) (M.area W H G s) _ hL hR (by omega)
        rw [decide_eq_true rfl] at kE
        generalize M.total P (M.area W H G s) = z
        generalize (M.area W H G s).length = nl at *
        go_wp2_with fail
        refine (kE).mono ?_
        rintro e x9 ⟨rfl, hbx⟩
        replace lw := lw.next hbx
        replace sw := sw.next hbx
        replace cb := cb.below hbx
        replace hL := (hL.below hbx).more hbx.size
        replace hR := (hR.below hbx).more hbx.size
        clear hbx
        clear kE
        go_wp2_with fail
        refine lw.known.mono ?_
        rintro e x9 ⟨rfl, hb9⟩
        go_wp2_with fail
        go_ret
        exact ⟨rfl, hb9⟩
end Go.Proofs.YtihepapjopcagaaGreatDoor
end

/- The walk of the law ServiceOverlaps. -/
section
namespace Go.Proofs.YtihepapjopcagaaGreatDoor
open Go Go.RowKit
set_option maxRecDepth 100000

theorem M.chk_two {W H : Int} {G P : List Int} {s t : St} (h : M.okS W H G P s = false ∨ M.okS W H G P t = false) : M.chk W H G P [s, t] = 2 := by
  unfold M.chk
  rw [if_neg]
  intro h2
  rw [Bool.and_eq_true, List.all_eq_true] at h2
  have h3 := h2.2 s (by simp)
  have h4 := h2.2 t (by simp)
  rcases h with h | h <;> simp_all

set_option maxHeartbeats 32000000 in
theorem serviceOverlaps_walk (W H : Int) (GA PA : Option Addr) (gc pc : Nat) (G P : List Int) (s : St) (A : Option Addr) (c : Nat) (t : St) (B : Option Addr) (d : Nat) (w : World) (ht : Tab w) (h64 : Tab64 w) (hg : Sl 1 icell w w.heap.size GA G) (hp : Sl 1 icell w w.heap.size PA P) (hS : Sl 1 icell w w.heap.size A s.pat) (hT : Sl 1 icell w w.heap.size B t.pat) :
    Calls Tryz.prog 5 #[tv W H GA PA G.length gc P.length pc, stv s A c, stv t B d] w fun e w' => e = .returned (.bool true) ∧ Below w.heap.size w w' := by
  obtain ⟨V, HW, x0, x1, x2, hB, -⟩ := boxes3 w #[.int .i64 W, .int .i64 H, .slice GA G.length gc, .slice PA P.length pc] 30 (stc s A c) 34 (stc t B d) 34
  have lw : LW w V w.heap.size W H GA PA gc pc G P := ⟨x0, (hg.below hB).more hB.size, (hp.below hB).more hB.size, ht.kept hB, h64.kept hB, hB⟩
  have sw : SW V (w.heap.size + 1) s A c := ⟨x1, (hS.below hB).more hB.size⟩
  have tw : SW V (w.heap.size + 1 + 1) t B d := ⟨x2, (hT.below hB).more hB.size⟩
  clear x0 x1 x2
  obtain ⟨U, HU, u0, hbU, -⟩ := boxes1 V #[.int .i64 s.id, .int .i64 s.x, .int .i64 s.y, .int .i64 s.pw, .int .i64 s.h, .slice A s.pat.length c, .int .i64 s.band, .int .i64 s.ch, .int .i64 t.id, .int .i64 t.x, .int .i64 t.y, .int .i64 t.pw, .int .i64 t.h, .slice B t.pat.length d, .int .i64 t.band, .int .i64 t.ch] 34
  obtain ⟨bg, hbig⟩ : ∃ bg, M.big G.length P.length [s, t] = bg := ⟨_, rfl⟩
  have kB := big14_any W H GA PA gc pc G.length P.length (some ⟨V.heap.size, 0, none⟩) 2 [⟨s, A, c⟩, ⟨t, B, d⟩] U (Sl.of_box u0 rfl)
  rw [show ([⟨s, A, c⟩, ⟨t, B, d⟩] : List SE).map (·.s) = [s, t] from rfl, hbig] at kB
  obtain ⟨c0, c1, c2, c3⟩ := lw.t.c4
  obtain ⟨b0, b1, b2, b3, b4, b5, b6, b7⟩ := sw.box.c8
  obtain ⟨d0, d1, d2, d3, d4, d5, d6, d7⟩ := tw.box.c8
  have hV := HW.out
  have hU := HU.out
  go_enter Tryz.func5, Tryz.ntmps5
  go_wp2_with fail
  clear hV hU c0 c1 c2 c3 b0 b1 b2 b3 b4 b5 b6 b7 d0 d1 d2 d3 d4 d5 d6 d7
  refine kB.mono ?_
  rintro e w1 ⟨rfl, hb1⟩
  have hb := after_ hbU hb1
  replace lw := lw.next hb
  replace sw := sw.next hb
  replace tw := tw.next hb
  clear hb hb1 hbU u0 kB hB
  cases bg with
  | true =>
    go_wp2_with fail
    refine lw.known.mono ?_
    rintro e x9 ⟨rfl, hb9⟩
    go_wp2_with fail
    go_ret
    exact ⟨rfl, hb9⟩
  | false =>
    obtain ⟨l1, l2, -, l3⟩ := M.big_no hbig
    have l4 := l3 s (by simp)
    have l5 := l3 t (by simp)
    clear l3 hbig
    cases hok : M.okS W H G P s with
    | false =>
      obtain ⟨c0, c1, c2, c3⟩ := lw.t.c4
      obtain ⟨b0, b1, b2, b3, b4, b5, b6, b7⟩ := sw.box.c8
      obtain ⟨d0, d1, d2, d3, d4, d5, d6, d7⟩ := tw.box.c8
      go_wp2_with fail
      clear c0 c1 c2 c3 b0 b1 b2 b3 b4 b5 b6 b7 d0 d1 d2 d3 d4 d5 d6 d7
      refine (overlap_no W H GA PA gc pc G P s A c t B d _ lw.g lw.p sw.p tw.p (by omega) (by omega) (by omega) (by omega) (M.chk_two (.inl hok))).mono ?_
      rintro e x1 ⟨LA, lc, rfl, hL, hbx⟩
      replace lw := lw.next hbx
      replace sw := sw.next hbx
      replace tw := tw.next hbx
      clear hbx
      obtain ⟨c0, c1, c2, c3⟩ := lw.t.c4
      obtain ⟨b0, b1, b2, b3, b4, b5, b6, b7⟩ := sw.box.c8
      go_wp2_with fail
      clear c0 c1 c2 c3 b0 b1 b2 b3 b4 b5 b6 b7
      refine (rAllowed14_any W H GA PA gc pc G P s A c _ lw.g lw.p sw.p (by omega) (by omega)).mono ?_
      rintro e x2 ⟨rfl, hbx⟩
      replace lw := lw.next hbx
      replace sw := sw.next hbx
      replace tw := tw.next hbx
      clear hbx
      rw [hok]
      go_wp2_with fail
      refine lw.known.mono ?_
      rintro e x9 ⟨rfl, hb9⟩
      go_wp2_with fail
      go_ret
      exact ⟨rfl, hb9⟩
    | true =>
      cases hok2 : M.okS W H G P t with
      | false =>
        obtain ⟨c0, c1, c2, c3⟩ := lw.t.c4
        obtain ⟨b0, b1, b2, b3, b4, b5, b6, b7⟩ := sw.box.c8
        obtain ⟨d0, d1, d2, d3, d4, d5, d6, d7⟩ := tw.box.c8
        go_wp2_with fail
        clear c0 c1 c2 c3 b0 b1 b2 b3 b4 b5 b6 b7 d0 d1 d2 d3 d4 d5 d6 d7
        refine (overlap_no W H GA PA gc pc G P s A c t B d _ lw.g lw.p sw.p tw.p (by omega) (by omega) (by omega) (by omega) (M.chk_two (.inr hok2))).mono ?_
        rintro e x1 ⟨LA, lc, rfl, hL, hbx⟩
        replace lw := lw.next hbx
        replace sw := sw.next hbx
        replace tw := tw.next hbx
        clear hbx
        obtain ⟨c0, c1, c2, c3⟩ := lw.t.c4
        obtain ⟨b0, b1, b2, b3, b4, b5, b6, b7⟩ := sw.box.c8
        go_wp2_with fail
        clear c0 c1 c2 c3 b0 b1 b2 b3 b4 b5 b6 b7
        refine (rAllowed14_any W H GA PA gc pc G P s A c _ lw.g lw.p sw.p (by omega) (by omega)).mono ?_
        rintro e x2 ⟨rfl, hbx⟩
        replace lw := lw.next hbx
        replace sw := sw.next hbx
        replace tw := tw.next hbx
        clear hbx
        rw [hok]
        obtain ⟨c0, c1, c2, c3⟩ := lw.t.c4
        obtain ⟨d0, d1, d2, d3, d4, d5, d6, d7⟩ := tw.box.c8
        go_wp2_with fail
        clear c0 c1 c2 c3 d0 d1 d2 d3 d4 d5 d6 d7
        refine (rAllowed14_any W H GA PA gc pc G P t B d _ lw.g lw.p tw.p (by omega) (by omega)).mono ?_
        rintro e x3 ⟨rfl, hbx⟩
        replace lw := lw.next hbx
        replace sw := sw.next hbx
        replace tw := tw.next hbx
        clear hbx
        rw [hok2]
        go_wp2_with fail
        refine lw.known.mono ?_
        rintro e x9 ⟨rfl, hb9⟩
        go_wp2_with fail
        go_ret
        exact ⟨rfl, hb9⟩
      | true =>
        obtain ⟨c0, c1, c2, c3⟩ := lw.t.c4
        obtain ⟨b0, b1, b2, b3, b4, b5, b6, b7⟩ := sw.box.c8
        obtain ⟨d0, d1, d2, d3, d4, d5, d6, d7⟩ := tw.box.c8
        go_wp2_with fail
        clear c0 c1 c2 c3 b0 b1 b2 b3 b4 b5 b6 b7 d0 d1 d2 d3 d4 d5 d6 d7
        refine (overlap_ok W H GA PA gc pc G P s A c t B d _ lw.tab lw.g lw.p sw.p tw.p hok hok2).mono ?_
        rintro e x1 ⟨LA, lc, rfl, hL, hbx⟩
        replace lw := lw.next hbx
        replace sw := sw.next hbx
        replace tw := tw.next hbx
        clear hbx
        obtain ⟨c0, c1, c2, c3⟩ := lw.t.c4
        obtain ⟨b0, b1, b2, b3, b4, b5, b6, b7⟩ := sw.box.c8
        go_wp2_with fail
        clear c0 c1 c2 c3 b0 b1 b2 b3 b4 b5 b6 b7
        refine (rAllowed14_any W H GA PA gc pc G P s A c _ lw.g lw.p sw.p (by omega) (by omega)).mono ?_
        rintro e x2 ⟨rfl, hbx⟩
        replace lw := lw.next hbx
        replace sw := sw.next hbx
        replace tw := tw.next hbx
        replace hL := (hL.below hbx).more hbx.size
        clear hbx
        rw [hok]
        obtain ⟨c0, c1, c2, c3⟩ := lw.t.c4
        obtain ⟨d0, d1, d2, d3, d4, d5, d6, d7⟩ := tw.box.c8
        go_wp2_with fail
        clear c0 c1 c2 c3 d0 d1 d2 d3 d4 d5 d6 d7
        refine (rAllowed14_any W H GA PA gc pc G P t B d _ lw.g lw.p tw.p (by omega) (by omega)).mono ?_
        rintro e x3 ⟨rfl, hbx⟩
        replace lw := lw.next hbx
        replace sw := sw.next hbx
        replace tw := tw.next hbx
        replace hL := (hL.below hbx).more hbx.size
        clear hbx
        rw [hok2]
        obtain ⟨-, htv, -, -⟩ := M.okS_iff.1 hok
        obtain ⟨r1, r2, -⟩ := M.tvalid_iff.1 htv
        have hwh := M.wh_le r1 r2
        have hal : (M.area W H G s).length ≤ 4096 := Nat.le_trans M.area_len (by omega)
        have hbl : (M.area W H G t).length ≤ 4096 := Nat.le_trans M.area_len (by omega)
        have hol : (M.over W H G s t).length ≤ 4096 := Nat.le_trans M.over_len (by omega)
        clear r1 r2 htv
        have HOV := Lib.hid (M.over_both W H G s t)
        go_wp2_with fail
        have k0 := held123 lw.t sw.box tw.box
        replace lw := lw.next (Below.refl _ _).drew
        replace sw := sw.next (Below.refl _ _).drew
        replace tw := tw.next (Below.refl _ _).drew
        replace hL := hL.drew
        have k1 := held123 lw.t sw.box tw.box
        have tok1 : True := trivial
        go_region_held3 (fun w' => w'.cell? ⟨w.heap.size, 0, none⟩ = some (.int .i64 W) ∧ w'.cell? ⟨w.heap.size, 1, none⟩ = some (.int .i64 H) ∧ w'.cell? ⟨w.heap.size, 2, none⟩ = some (.slice GA G.length gc) ∧ w'.cell? ⟨w.heap.size, 3, none⟩ = some (.slice PA P.length pc) ∧ w'.cell? ⟨w.heap.size + 1, 0, none⟩ = some (.int .i64 s.id) ∧ w'.cell? ⟨w.heap.size + 1, 1, none⟩ = some (.int .i64 s.x) ∧ w'.cell? ⟨w.heap.size + 1, 2, none⟩ = some (.int .i64 s.y) ∧ w'.cell? ⟨w.heap.size + 1, 3, none⟩ = some (.int .i64 s.pw) ∧ w'.cell? ⟨w.heap.size + 1, 4, none⟩ = some (.int .i64 s.h) ∧ w'.cell? ⟨w.heap.size + 1, 5, none⟩ = some (.slice A s.pat.length c) ∧ w'.cell? ⟨w.heap.size + 1, 6, none⟩ = some (.int .i64 s.band) ∧ w'.cell? ⟨w.heap.size + 1, 7, none⟩ = some (.int .i64 s.ch) ∧ w'.cell? ⟨w.heap.size + 1 + 1, 0, none⟩ = some (.int .i64 t.id) ∧ w'.cell? ⟨w.heap.size + 1 + 1, 1, none⟩ = some (.int .i64 t.x) ∧ w'.cell? ⟨w.heap.size + 1 + 1, 2, none⟩ = some (.int .i64 t.y) ∧ w'.cell? ⟨w.heap.size + 1 + 1, 3, none⟩ = some (.int .i64 t.pw) ∧ w'.cell? ⟨w.heap.size + 1 + 1, 4, none⟩ = some (.int .i64 t.h) ∧ w'.cell? ⟨w.heap.size + 1 + 1, 5, none⟩ = some (.slice B t.pat.length d) ∧ w'.cell? ⟨w.heap.size + 1 + 1, 6, none⟩ = some (.int .i64 t.band) ∧ w'.cell? ⟨w.heap.size + 1 + 1, 7, none⟩ = some (.int .i64 t.ch)) (first | with_reducible exact held123 lw.t sw.box tw.box | with_reducible exact k1 | with_reducible exact k0)
          (first
            | (go_at_call 18; (first | (have _t := tok1; refine (rArea_ok W H GA PA gc pc G P s A c _ lw.g sw.p hok).mono ?_; rintro e y1 ⟨RA, rc, rfl, hR, hb1⟩; replace lw := lw.next hb1; replace sw := sw.next hb1; replace tw := tw.next hb1; replace hL := (hL.below hb1).more hb1.size; clear tok1) | (refine (rArea_ok W H GA PA gc pc G P t B d _ lw.g tw.p hok2).mono ?_; rintro e y2 ⟨RB, rd, rfl, hR2, hb2⟩; replace lw := lw.next hb2; replace sw := sw.next hb2; replace tw := tw.next hb2; replace hL := (hL.below hb2).more hb2.size; replace hR := (hR.below hb2).more hb2.size)))
            | (go_at_call 22; (refine (rBoth_ok RA RB rc rd _ _ _ hR hR2 (by omega) (by omega)).mono ?_; rintro e y3 ⟨RC, re, rfl, hR3, hb3⟩; rw [← HOV.out] at hR3; rw [← HOV.out]; replace lw := lw.next hb3; replace sw := sw.next hb3; replace tw := tw.next hb3; replace hL := (hL.below hb3).more hb3.size))
            | (go_at_call 20; (have kE := equal14_any LA RC lc re (M.over W H G s t) (M.over W H G s t) _ hL hR3 (by omega); rw [decide_eq_true rfl] at kE; refine kE.mono ?_; rintro e y4 ⟨rfl, hb4⟩; clear kE; replace lw := lw.next hb4; replace sw := sw.next hb4; replace tw := tw.next hb4; replace hL := (hL.below hb4).more hb4.size))
            | (go_at_call 9; (refine (known14_any _ lw.tab lw.tab64).mono ?_; rintro e y5 ⟨rfl, hb5⟩; replace lw := lw.next hb5; replace sw := sw.next hb5; replace tw := tw.next hb5; replace hL := (hL.below hb5).more hb5.size)))
        go_wp2_with fail
        go_ret
        exact ⟨rfl, lw.below⟩
end Go.Proofs.YtihepapjopcagaaGreatDoor
end
