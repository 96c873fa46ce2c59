/- Layer 15: Cells, People, Union, Exceeds, Hit. -/
import Derived.Test.YtohkbblfcjmmnaaGreatDoorLost
namespace Go.Proofs.YtohkbblfcjmmnaaGreatDoor
open Go Go.RowKit
set_option maxRecDepth 100000

def M.peoR (W H : Int) (G P : List Int) (a : St) (o : Int) (l : List St) : Int × Int := if M.lostOk W H G P a o l = true then (M.total P (M.lost W H G a (M.ratio o) l), 0) else (0, 2)
theorem M.lostOk_tv {W H : Int} {G P : List Int} {a : St} {o : Int} {l : List St} (h : M.lostOk W H G P a o l = true) : M.tvalid W H G P = true ∧ M.okS W H G P a = true := by
  unfold M.lostOk at h
  rw [Bool.and_eq_true] at h
  exact ⟨(M.okS_iff.1 h.2).2.1, h.2⟩
theorem M.total_bd {P l : List Int} (hP : ∀ g ∈ P, 0 ≤ g ∧ g ≤ 1000000) (hl : l.length ≤ 4096) : 0 ≤ M.total P l ∧ M.total P l ≤ 4096000000 := by
  have := M.totTo_bd (l := l) hP l.length
  unfold M.total
  omega
theorem M.lost_len4 {W H : Int} {G P : List Int} {a : St} {r : Int} {l : List St} (htv : M.tvalid W H G P = true) : (M.lost W H G a r l).length ≤ 4096 := by
  obtain ⟨r1, r2, -⟩ := M.tvalid_iff.1 htv
  obtain ⟨wh1, wh2⟩ := M.wh_le r1 r2
  exact Nat.le_trans M.lost_len (by omega)
theorem ret_ii {a b : Int} {r : Int × Int} (h : r = (a, b)) : Ending.returned (.tuple #[.int .i64 a, .int .i64 b]) = .returned (.tuple #[.int .i64 r.1, .int .i64 r.2]) := by rw [h]

set_option maxHeartbeats 8000000 in
theorem icells_any (W H : Int) (GA PA : Option Addr) (gc pc : Nat) (G P : List Int) (a b : St) (A B : Option Addr) (c d : Nat) (o : Int) (w : World) (ht : Tab w) (hg : Sl 1 icell w w.heap.size GA G) (hp : Sl 1 icell w w.heap.size PA P) (hS : Sl 1 icell w w.heap.size A a.pat) (hT : Sl 1 icell w w.heap.size B b.pat)
    (hgl : G.length ≤ 9223372036854775806) (hpl' : P.length ≤ 9223372036854775806) (hpa : a.pat.length ≤ 1000) (hpb : b.pat.length ≤ 1000) :
    Calls Tryz.prog 15 #[tv W H GA PA G.length gc P.length pc, stv a A c, stv b B d, .int .i64 o] w (RetL 1 icell w (M.lostR W H G P a o [b]).1 (M.lostR W H G P a o [b]).2) := by
  obtain ⟨V, HW, x0, x1, x2, hB, -⟩ := boxes3 w #[.int .i64 W, .int .i64 H, .slice GA G.length gc, .slice PA P.length pc] 24 (stc a A c) 28 (stc b B d) 28
  obtain ⟨U, HU, u0, hBU, -⟩ := boxes1 V (stc b B d) 28
  have BU := after_ hB hBU
  have hL : Sl 8 secell U U.heap.size (some ⟨V.heap.size, 0, none⟩) [⟨b, B, d⟩] := Sl.of_box u0 rfl
  obtain ⟨c0, c1, c2, c3⟩ := x0.c4
  obtain ⟨b0, b1, b2, b3, b4, b5, b6, b7⟩ := x1.c8
  obtain ⟨d0, d1, d2, d3, d4, d5, d6, d7⟩ := x2.c8
  have hV := HW.out
  have hU := HU.out
  have k := lost_any W H GA PA gc pc G P a A c o (some ⟨V.heap.size, 0, none⟩) 1 [⟨b, B, d⟩] U (ht.kept BU) ((hg.below BU).more BU.size) ((hp.below BU).more BU.size) ((hS.below BU).more BU.size) hL (pats1 ((hT.below BU).more BU.size)) (by simp) hgl hpl' hpa (pl1 hpb)
  replace k : Calls Tryz.prog 42 #[tv W H GA PA G.length gc P.length pc, stv a A c, .int .i64 o, .slice (some ⟨V.heap.size, 0, none⟩) 1 1] U (RetL 1 icell U (M.lostR W H G P a o [b]).1 (M.lostR W H G P a o [b]).2) := k
  go_enter Tryz.func15, Tryz.ntmps15
  go_wp2_with fail
  clear hV hU
  refine k.mono ?_
  rintro e w1 ⟨A1, c1', rfl, hS1, hb1⟩
  go_wp2_with fail
  go_ret2
  exact ⟨A1, c1', rfl, hS1, after_ BU hb1⟩

set_option maxHeartbeats 8000000 in
theorem ipeople_any (W H : Int) (GA PA : Option Addr) (gc pc : Nat) (G P : List Int) (a b : St) (A B : Option Addr) (c d : Nat) (o : Int) (w : World) (ht : Tab w) (hg : Sl 1 icell w w.heap.size GA G) (hp : Sl 1 icell w w.heap.size PA P) (hS : Sl 1 icell w w.heap.size A a.pat) (hT : Sl 1 icell w w.heap.size B b.pat)
    (hgl : G.length ≤ 9223372036854775806) (hpl' : P.length ≤ 9223372036854775806) (hpa : a.pat.length ≤ 1000) (hpb : b.pat.length ≤ 1000) :
    Calls Tryz.prog 16 #[tv W H GA PA G.length gc P.length pc, stv a A c, stv b B d, .int .i64 o] w fun e w' => e = .returned (.tuple #[.int .i64 (M.peoR W H G P a o [b]).1, .int .i64 (M.peoR W H G P a o [b]).2]) ∧ Below w.heap.size w w' := by
  obtain ⟨V, HW, x0, x1, x2, hB, -⟩ := boxes3 w #[.int .i64 W, .int .i64 H, .slice GA G.length gc, .slice PA P.length pc] 24 (stc a A c) 28 (stc b B d) 28
  obtain ⟨U, HU, u0, hBU, -⟩ := boxes1 V (stc b B d) 28
  have BU := after_ hB hBU
  have hL : Sl 8 secell U U.heap.size (some ⟨V.heap.size, 0, none⟩) [⟨b, B, d⟩] := Sl.of_box u0 rfl
  obtain ⟨c0, c1, c2, c3⟩ := x0.c4
  obtain ⟨b0, b1, b2, b3, b4, b5, b6, b7⟩ := x1.c8
  obtain ⟨d0, d1, d2, d3, d4, d5, d6, d7⟩ := x2.c8
  have hV := HW.out
  have hU := HU.out
  have k := lost_any W H GA PA gc pc G P a A c o (some ⟨V.heap.size, 0, none⟩) 1 [⟨b, B, d⟩] U (ht.kept BU) ((hg.below BU).more BU.size) ((hp.below BU).more BU.size) ((hS.below BU).more BU.size) hL (pats1 ((hT.below BU).more BU.size)) (by simp) hgl hpl' hpa (pl1 hpb)
  replace k : Calls Tryz.prog 42 #[tv W H GA PA G.length gc P.length pc, stv a A c, .int .i64 o, .slice (some ⟨V.heap.size, 0, none⟩) 1 1] U (RetL 1 icell U (M.lostR W H G P a o [b]).1 (M.lostR W H G P a o [b]).2) := k
  obtain ⟨r1, r2, hr⟩ : ∃ r1 r2, M.peoR W H G P a o [b] = (r1, r2) := ⟨_, _, rfl⟩
  have HR := Lib.hid hr
  rw [hr]
  clear hr
  unfold M.lostR at k
  cases hok : M.lostOk W H G P a o [b] with
  | false =>
    rw [hok, if_neg (by decide)] at k
    obtain ⟨rfl, rfl⟩ : r1 = 0 ∧ r2 = 2 := by
      have := HR.out
      unfold M.peoR at this
      rw [hok, if_neg (by decide)] at this
      simp only [Prod.mk.injEq] at this
      omega
    go_enter Tryz.func16, Tryz.ntmps16
    go_wp2_with fail
    clear hV hU
    refine k.mono ?_
    rintro e w1 ⟨A1, c1', rfl, hS1, hb1⟩
    go_wp2_with fail
    go_ret2
    exact ⟨rfl, after_ BU hb1⟩
  | true =>
    rw [hok, if_pos rfl] at k
    obtain ⟨h1, rfl⟩ : M.total P (M.lost W H G a (M.ratio o) [b]) = r1 ∧ r2 = 0 := by
      have := HR.out
      unfold M.peoR at this
      rw [hok, if_pos rfl] at this
      simp only [Prod.mk.injEq] at this
      exact ⟨this.1, this.2.symm⟩
    have HTV := Lib.hid (M.lostOk_tv hok).1
    have hll : (M.lost W H G a (M.ratio o) [b]).length ≤ 100000 := Nat.le_trans (M.lost_len4 HTV.out) (by omega)
    have HIN := Lib.hid (M.lost_in (W := W) (H := H) (G := G) (a := a) (r := M.ratio o) (l := [b]))
    have H1 := Lib.hid h1
    clear h1 HR hok
    generalize M.lost W H G a (M.ratio o) [b] = ls at *
    go_enter Tryz.func16, Tryz.ntmps16
    go_wp2_with fail
    clear hV hU c0 c1 c2 c3 b0 b1 b2 b3 b4 b5 b6 b7 d0 d1 d2 d3 d4 d5 d6 d7
    refine k.mono ?_
    rintro e w1 ⟨A1, c1', rfl, hS1, hb1⟩
    simp only
    have B1 := after_ BU hb1
    obtain ⟨c0, c1, c2, c3⟩ := ((x0.below hBU).below hb1).c4
    go_wp2_with fail
    refine (tTotal_ok W H GA PA gc pc G P A1 _ ls w1 ((hg.below B1).more B1.size) ((hp.below B1).more B1.size) hS1 HTV.out hll HIN.out).mono ?_
    rintro e w2 ⟨rfl, hb2⟩
    rw [H1.out]
    go_wp2_with fail
    go_ret2
    exact ⟨rfl, after_ B1 hb2⟩

def M.excR (W H : Int) (G P : List Int) (a b : St) (o s : Int) : Bool × Int := if (M.isIn s 0 1000 && M.lostOk W H G P a o [b]) = true then (decide (s * M.total P (M.area W H G a) < 1000 * M.total P (M.lost W H G a (M.ratio o) [b])), 0) else (false, 2)

set_option maxHeartbeats 8000000 in
theorem iexceeds_any (W H : Int) (GA PA : Option Addr) (gc pc : Nat) (G P : List Int) (a b : St) (A B : Option Addr) (c d : Nat) (o sh : Int) (w : World) (ht : Tab w) (hg : Sl 1 icell w w.heap.size GA G) (hp : Sl 1 icell w w.heap.size PA P) (hS : Sl 1 icell w w.heap.size A a.pat) (hT : Sl 1 icell w w.heap.size B b.pat)
    (hgl : G.length ≤ 9223372036854775806) (hpl' : P.length ≤ 9223372036854775806) (hpa : a.pat.length ≤ 1000) (hpb : b.pat.length ≤ 1000) :
    Calls Tryz.prog 20 #[tv W H GA PA G.length gc P.length pc, stv a A c, stv b B d, .int .i64 o, .int .i64 sh] w fun e w' => e = .returned (.tuple #[.bool (M.excR W H G P a b o sh).1, .int .i64 (M.excR W H G P a b o sh).2]) ∧ Below w.heap.size w w' := by
  obtain ⟨V, HW, x0, x1, x2, hB, -⟩ := boxes3 w #[.int .i64 W, .int .i64 H, .slice GA G.length gc, .slice PA P.length pc] 24 (stc a A c) 28 (stc b B d) 28
  obtain ⟨r1, r2, hr⟩ : ∃ r1 r2, M.excR W H G P a b o sh = (r1, r2) := ⟨_, _, rfl⟩
  have HNO : Hid ((M.isIn sh 0 1000 && M.lostOk W H G P a o [b]) = false → r1 = false ∧ r2 = 2) := Lib.hid (fun h => by
    have := hr
    unfold M.excR at this
    rw [h, if_neg (by decide)] at this
    simp only [Prod.mk.injEq] at this
    exact ⟨this.1.symm, this.2.symm⟩)
  have HYES : Hid ((M.isIn sh 0 1000 && M.lostOk W H G P a o [b]) = true → decide (sh * M.total P (M.area W H G a) < 1000 * M.total P (M.lost W H G a (M.ratio o) [b])) = r1 ∧ r2 = 0) := Lib.hid (fun h => by
    have := hr
    unfold M.excR at this
    rw [h, if_pos rfl] at this
    simp only [Prod.mk.injEq] at this
    exact ⟨this.1, this.2.symm⟩)
  rw [hr]
  clear hr
  by_cases g1 : sh < 0
  · have q1 : decide (sh < 0) = true := decide_eq_true g1
    obtain ⟨rfl, rfl⟩ := HNO.out (by rw [show M.isIn sh 0 1000 = false by rw [Bool.eq_false_iff]; intro h; have := M.isIn_iff.1 h; omega]; rfl)
    go_enter Tryz.func20, Tryz.ntmps20
    go_wp2_with fail
    go_ret2
    exact ⟨rfl, by rw [HW.out]; exact hB⟩
  have q1 : decide (sh < 0) = false := decide_eq_false g1
  by_cases g2 : 1000 < sh
  · have q2 : decide (1000 < sh) = true := decide_eq_true g2
    obtain ⟨rfl, rfl⟩ := HNO.out (by rw [show M.isIn sh 0 1000 = false by rw [Bool.eq_false_iff]; intro h; have := M.isIn_iff.1 h; omega]; rfl)
    go_enter Tryz.func20, Tryz.ntmps20
    go_wp2_with fail
    go_ret2
    exact ⟨rfl, by rw [HW.out]; exact hB⟩
  have q2 : decide (1000 < sh) = false := decide_eq_false g2
  have HIS : Hid (M.isIn sh 0 1000 = true) := Lib.hid (M.isIn_iff.2 ⟨by omega, by omega⟩)
  have k := ipeople_any W H GA PA gc pc G P a b A B c d o V (ht.kept hB) ((hg.below hB).more hB.size) ((hp.below hB).more hB.size) ((hS.below hB).more hB.size) ((hT.below hB).more hB.size) hgl hpl' hpa hpb
  obtain ⟨c0, c1, c2, c3⟩ := x0.c4
  obtain ⟨b0, b1, b2, b3, b4, b5, b6, b7⟩ := x1.c8
  obtain ⟨d0, d1, d2, d3, d4, d5, d6, d7⟩ := x2.c8
  unfold M.peoR at k
  have hV := HW.out
  cases hok : M.lostOk W H G P a o [b] with
  | false =>
    rw [hok, if_neg (by decide)] at k
    obtain ⟨rfl, rfl⟩ := HNO.out (by rw [hok, Bool.and_false])
    go_enter Tryz.func20, Tryz.ntmps20
    go_wp2_with fail
    clear hV
    refine k.mono ?_
    rintro e w1 ⟨rfl, hb1⟩
    go_wp2_with fail
    go_ret2
    exact ⟨rfl, after_ hB hb1⟩
  | true =>
    rw [hok, if_pos rfl] at k
    obtain ⟨h1, rfl⟩ := HYES.out (by rw [hok, HIS.out]; rfl)
    have H1 := Lib.hid h1
    obtain ⟨htv, hoa⟩ := M.lostOk_tv hok
    obtain ⟨-, -, -, -, -, hPv⟩ := M.tvalid_iff.1 htv
    have t1 := M.total_bd (P := P) (l := M.lost W H G a (M.ratio o) [b]) hPv (M.lost_len4 htv)
    have t2 := M.total_bd (P := P) (l := M.area W H G a) hPv (by
      obtain ⟨r1, r2, -⟩ := M.tvalid_iff.1 htv
      obtain ⟨wh1, wh2⟩ := M.wh_le r1 r2
      exact Nat.le_trans M.area_len (by omega))
    have t3 : 0 ≤ sh * M.total P (M.area W H G a) ∧ sh * M.total P (M.area W H G a) ≤ 4096000000000 := by
      have m1 := Int.mul_nonneg (show (0 : Int) ≤ sh by omega) t2.1
      have m2 := Int.mul_le_mul (show sh ≤ 1000 by omega) t2.2 t2.1 (by omega)
      exact ⟨m1, m2⟩
    clear h1 hPv htv HNO HYES hok
    have kP : Hid (∀ w1, Tab w1 → Sl 1 icell w1 w1.heap.size GA G → Sl 1 icell w1 w1.heap.size PA P → Sl 1 icell w1 w1.heap.size A a.pat → Calls Tryz.prog 44 #[tv W H GA PA G.length gc P.length pc, stv a A c] w1 fun e w' => e = .returned (.tuple #[.int .i64 (M.total P (M.area W H G a)), .int .i64 0]) ∧ Below w1.heap.size w1 w') := Lib.hid (fun w1 h1 h2 h3 h4 => people_ok W H GA PA gc pc G P a A c w1 h1 h2 h3 h4 hoa)
    clear hoa
    generalize M.total P (M.lost W H G a (M.ratio o) [b]) = tl at *
    generalize M.total P (M.area W H G a) = ta at *
    go_enter Tryz.func20, Tryz.ntmps20
    go_wp2_with fail
    clear hV c0 c1 c2 c3 b0 b1 b2 b3 b4 b5 b6 b7 d0 d1 d2 d3 d4 d5 d6 d7
    refine k.mono ?_
    rintro e w1 ⟨rfl, hb1⟩
    simp only
    have B1 := after_ hB hb1
    obtain ⟨c0, c1, c2, c3⟩ := (x0.below hb1).c4
    obtain ⟨b0, b1, b2, b3, b4, b5, b6, b7⟩ := (x1.below hb1).c8
    go_wp2_with fail
    refine (kP.out w1 (ht.kept B1) ((hg.below B1).more B1.size) ((hp.below B1).more B1.size) ((hS.below B1).more B1.size)).mono ?_
    rintro e w2 ⟨rfl, hb2⟩
    clear c0 c1 c2 c3 b0 b1 b2 b3 b4 b5 b6 b7 q1 q2
    go_wp2_with fail
    go_ret2
    exact ⟨ret_bi H1.out, after_ B1 hb2⟩
end Go.Proofs.YtohkbblfcjmmnaaGreatDoor
