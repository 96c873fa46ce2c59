/- The walk of the law StationPower. -/
import Derived.Test.YtfcaikahdcpglaaDoorLawF
import Derived.Test.YtfcaikahdcpglaaDoorPowMath
namespace Go.Proofs.YtfcaikahdcpglaaDoor
open Go Go.RowKit
set_option maxRecDepth 100000

/-- What the law holds. -/
structure PW (w : World) (b0 b1 b2 b3 : Nat) (W H : Int) (GA PA : Option Addr) (gc pc : Nat) (G P : List Int) (s : St) (A : Option Addr) (c : Nat) (cx cy : Int) (o : St) (O : Option Addr) (oc : Nat) : Prop where
  bt : Box w b0 #[.int .i64 W, .int .i64 H, .slice GA G.length gc, .slice PA P.length pc] 24
  bs : Box w b1 (stc s A c) 28
  bc : Box w b2 #[.int .i64 cx, .int .i64 cy] 30
  bo : Box w b3 (stc o O oc) 28
  g : Sl 1 icell w w.heap.size GA G
  p : Sl 1 icell w w.heap.size PA P
  s1 : Sl 1 icell w w.heap.size A s.pat
  o1 : Sl 1 icell w w.heap.size O o.pat
  tab : Tab w
theorem PW.below {w w' : World} {b0 b1 b2 b3 : Nat} {W H : Int} {GA PA : Option Addr} {gc pc : Nat} {G P : List Int} {s : St} {A : Option Addr} {c : Nat} {cx cy : Int} {o : St} {O : Option Addr} {oc : Nat} (h : PW w b0 b1 b2 b3 W H GA PA gc pc G P s A c cx cy o O oc) (hb : Below w.heap.size w w') : PW w' b0 b1 b2 b3 W H GA PA gc pc G P s A c cx cy o O oc :=
  ⟨h.bt.below hb, h.bs.below hb, h.bc.below hb, h.bo.below hb, (h.g.below hb).more hb.size, (h.p.below hb).more hb.size, (h.s1.below hb).more hb.size, (h.o1.below hb).more hb.size, h.tab.kept hb⟩
theorem sort_two (LA : Option Addr) (lc : Nat) (a b p q : St) (A B : Option Addr) (c d : Nat) (w : World) (hL : Sl 8 secell w w.heap.size LA [⟨a, A, c⟩, ⟨b, B, d⟩]) (hA : Sl 1 icell w w.heap.size A a.pat) (hB : Sl 1 icell w w.heap.size B b.pat) (h1 : a.pat.length ≤ 1000) (h2 : b.pat.length ≤ 1000) (hr : M.sortR [a, b] = ([p, q], 0)) :
    Calls Tryd.prog 20 #[.slice LA 2 lc] w fun e w' => ∃ OA oc O1 oc1 O2 oc2, e = .returned (.tuple #[.slice OA 2 oc, .int .i64 0]) ∧ Sl 8 secell w' w'.heap.size OA [⟨p, O1, oc1⟩, ⟨q, O2, oc2⟩] ∧ Sl 1 icell w' w'.heap.size O1 p.pat ∧ Sl 1 icell w' w'.heap.size O2 q.pat ∧ Below w.heap.size w w' := by
  have hP : Pats w [⟨a, A, c⟩, ⟨b, B, d⟩] := fun e he => by
    rcases List.mem_cons.1 he with rfl | he
    · exact hA
    · obtain rfl : e = ⟨b, B, d⟩ := by simpa using he
      exact hB
  have h := sort_any LA lc [⟨a, A, c⟩, ⟨b, B, d⟩] w hL hP (by simp) (kpl _ _ _ _ _ _ h1 h2)
  refine Calls.mono h ?_
  rintro e w' ⟨OA, oc, os, rfl, hos, hO, hb⟩
  have hk : (M.sortR (([⟨a, A, c⟩, ⟨b, B, d⟩] : List SE).map (·.s))) = ([p, q], 0) := hr
  rw [hk] at hos
  have hlen : os.length = 2 := by have := congrArg List.length hos; simpa using this
  obtain ⟨e1, e2, rfl⟩ : ∃ e1 e2, os = [e1, e2] := by
    match os, hlen with
    | [a, b], _ => exact ⟨a, b, rfl⟩
  obtain ⟨s1, O1, oc1⟩ := e1
  obtain ⟨s2, O2, oc2⟩ := e2
  simp only [List.map_cons, List.map_nil, List.cons.injEq, and_true] at hos
  obtain ⟨q1, q2⟩ := hos
  subst q1 q2
  refine ⟨OA, oc, O1, oc1, O2, oc2, by rw [hk]; rfl, Sl.of_own (by decide) hO.own, Sl.of_own (by decide) (hO.pat ⟨_, O1, oc1⟩ (by simp)), Sl.of_own (by decide) (hO.pat ⟨_, O2, oc2⟩ (by simp)), hb⟩

set_option maxHeartbeats 16000000 in
theorem stationPower_walk (W H : Int) (GA PA : Option Addr) (gc pc : Nat) (G P : List Int) (s : St) (A : Option Addr) (c : Nat) (cx cy more : Int) (w : World) (ht : Tab w) (hg : Sl 1 icell w w.heap.size GA G) (hp : Sl 1 icell w w.heap.size PA P) (hS : Sl 1 icell w w.heap.size A s.pat) :
    Calls Tryd.prog 6 #[tv W H GA PA G.length gc P.length pc, stv s A c, cv cx cy, .int .i64 more] w (LawTrue w) := by
  obtain ⟨V, HW, x0, x1, x2, hB, hsV⟩ := boxes3 w #[.int .i64 W, .int .i64 H, .slice GA G.length gc, .slice PA P.length pc] 24 (stc s A c) 28 #[.int .i64 cx, .int .i64 cy] 30
  have HSV := Lib.hid hsV
  clear hsV
  obtain ⟨U, HU, u0, hBU, -⟩ := boxes1 V (stc s A c) 28
  have BU := after_ hB hBU
  have hL : Sl 8 secell U U.heap.size (some ⟨V.heap.size, 0, none⟩) [⟨s, A, c⟩] := Sl.of_box u0 rfl
  have y0 := x0.below hBU
  have y1 := x1.below hBU
  have y2 := x2.below hBU
  have hV := HW.out
  have hU := HU.out
  obtain ⟨c0, c1, c2, c3⟩ := x0.c4
  obtain ⟨b0, b1, b2, b3, b4, b5, b6, b7⟩ := x1.c8
  go_enter Tryd.func6, Tryd.ntmps6
  go_wp2_with fail
  clear hV hU c0 c1 c2 c3 b0 b1 b2 b3 b4 b5 b6 b7
  refine (big_any W H GA PA gc pc G.length P.length (some ⟨V.heap.size, 0, none⟩) 1 [⟨s, A, c⟩] U hL).mono ?_
  rintro e w1 ⟨rfl, hb1⟩
  have B1 := after_ BU hb1
  cases hbig : M.big13 G.length P.length (([⟨s, A, c⟩] : List SE).map (·.s)) with
  | true =>
    go_wp2_with fail
    refine (known_any w1 (ht.kept B1)).mono ?_
    rintro e wk ⟨rfl, hbk⟩
    go_wp2_with fail
    go_ret
    exact ⟨rfl, after_ B1 hbk⟩
  | false =>
    have hgl : G.length ≤ 300 ∧ P.length ≤ 300 ∧ s.pat.length ≤ 20 := by
      unfold M.big13 at hbig
      simp at hbig
      omega
    clear hbig
    have x01 := y0.below hb1
    have x11 := y1.below hb1
    have x21 := y2.below hb1
    have hg2 := (hg.below B1).more B1.size
    have hp2 := (hp.below B1).more B1.size
    have hS2 := (hS.below B1).more B1.size
    obtain ⟨c0, c1, c2, c3⟩ := x01.c4
    obtain ⟨b0, b1, b2, b3, b4, b5, b6, b7⟩ := x11.c8
    obtain ⟨d0, d1⟩ := x21.c2
    go_wp2_with fail
    clear c0 c1 c2 c3 b0 b1 b2 b3 b4 b5 b6 b7 d0 d1
    refine (rAllowed_any W H GA PA gc pc G P s A c cx cy w1 hg2 hp2 hS2 (by omega) (by omega)).mono ?_
    rintro e w2 ⟨rfl, hb2⟩
    have B2 := after_ B1 hb2
    cases hok : M.okF W H G P s cx cy with
    | false =>
      go_wp2_with fail
      refine (known_any w2 (ht.kept B2)).mono ?_
      rintro e wk ⟨rfl, hbk⟩
      go_wp2_with fail
      go_ret
      exact ⟨rfl, after_ B2 hbk⟩
    | true =>
      have hsv : M.svalid s = true := by unfold M.okF at hok; rw [Bool.and_eq_true] at hok; exact hok.1
      have hpw := (M.svalid_iff.1 hsv).2.2.2.1
      have hid := (M.svalid_iff.1 hsv).1
      have HOK := Lib.hid hok
      have HSVA := Lib.hid hsv
      clear hok hsv
      obtain ⟨b0, b1, b2, b3, b4, b5, b6, b7⟩ := (x11.below hb2).c8
      by_cases g1 : more < 0
      · have q1 : decide (more < 0) = true := decide_eq_true g1
        go_wp2_with fail
        refine (known_any w2 (ht.kept B2)).mono ?_
        rintro e wk ⟨rfl, hbk⟩
        go_wp2_with fail
        go_ret
        exact ⟨rfl, after_ B2 hbk⟩
      have q1 : decide (more < 0) = false := decide_eq_false g1
      by_cases g2 : 300 < more
      · have q2 : decide (300 < more) = true := decide_eq_true g2
        go_wp2_with fail
        refine (known_any w2 (ht.kept B2)).mono ?_
        rintro e wk ⟨rfl, hbk⟩
        go_wp2_with fail
        go_ret
        exact ⟨rfl, after_ B2 hbk⟩
      have q2 : decide (300 < more) = false := decide_eq_false g2
      by_cases g3 : 300 < s.pw + more
      · have q3 : decide (300 < s.pw + more) = true := decide_eq_true g3
        go_wp2_with fail
        refine (known_any w2 (ht.kept B2)).mono ?_
        rintro e wk ⟨rfl, hbk⟩
        go_wp2_with fail
        go_ret
        exact ⟨rfl, after_ B2 hbk⟩
      have q3 : decide (300 < s.pw + more) = false := decide_eq_false g3
      go_wp2_with fail
      clear b0 b1 b2 b3 b4 b5 b6 b7 q1 q2 q3
      refine (rSCopy_ok s A c w2 ((hS.below B2).more B2.size) (by omega)).mono ?_
      rintro e w3 ⟨O, oc, rfl, hown, hb3⟩
      have B3 := after_ B2 hb3
      obtain ⟨X, HX, o0, hbX, -⟩ := boxes1 w3 (stc s O oc) 28
      have BX := after_ B3 hbX
      have o1 := (o0.set 3 (.int .i64 (s.pw + more))).set 0 (.int .i64 (511 - s.id))
      obtain ⟨Z, HZ⟩ : ∃ Z, Hid ((X.setCell ⟨w3.heap.size, 3, none⟩ (.int .i64 (s.pw + more))).setCell ⟨w3.heap.size, 0, none⟩ (.int .i64 (511 - s.id)) = Z) := ⟨_, Lib.hid rfl⟩
      have hwb : w.heap.size ≤ w3.heap.size := B3.size
      have BZ : Below w3.heap.size w3 Z := by rw [← HZ.out]; exact (hbX.setCell (p := ⟨w3.heap.size, 3, none⟩) (Nat.le_refl _) _).setCell (p := ⟨w3.heap.size, 0, none⟩) (Nat.le_refl _) _
      have BwZ := after_ B3 BZ
      rw [HZ.out] at o1
      have o2 : Box Z w3.heap.size (stc (M.oth s more) O oc) 28 := o1
      clear o1
      have S3 := Sl.of_own (by decide) hown
      have pw : PW Z w.heap.size (w.heap.size + 1) (w.heap.size + 2) w3.heap.size W H GA PA gc pc G P s A c cx cy (M.oth s more) O oc :=
        ⟨((x01.below hb2).below hb3).below BZ, ((x11.below hb2).below hb3).below BZ, ((x21.below hb2).below hb3).below BZ, o2, (hg.below BwZ).more BwZ.size, (hp.below BwZ).more BwZ.size, (hS.below BwZ).more BwZ.size, (S3.below BZ).more BZ.size, ht.kept BwZ⟩
      obtain ⟨k0, k1, k2, k3, k4, k5, k6, k7⟩ := (((x11.below hb2).below hb3).below hbX).c8
      obtain ⟨f0, f1, f2, f3, f4, f5, f6, f7⟩ := o0.c8
      have z3 := o0.frozen 3
      have z0 := o0.frozen 0
      have hX := HX.out
      have hne : w.heap.size + 1 ≠ w3.heap.size := by have := (x11.below hb2).lt; have := hb3.size; omega
      have j1 := ((((x11.below hb2).below hb3).below hbX).set_other (p := ⟨w3.heap.size, 3, none⟩) hne (.int .i64 (s.pw + more)))
      have m0 := j1.c8.1
      have m1 := (o0.set 3 (.int .i64 (s.pw + more))).frozen 0
      have m2 := (o0.set 3 (.int .i64 (s.pw + more))).c8.1
      have hZ := HZ.out
      obtain ⟨r0, r1, r2, r3⟩ := pw.bt.c4
      obtain ⟨s0, s1, s2, s3, s4, s5, s6, s7⟩ := pw.bs.c8
      obtain ⟨t0, t1⟩ := pw.bc.c2
      clear x0 x1 x2 y0 y1 y2 x01 x11 x21 hb1 hb2 hb3 B1 B2 B3 u0 hL hBU BU hB hg2 hp2 hS2
      go_wp2_with fail
      clear hZ hX k0 k1 k2 k3 k4 k5 k6 k7 f0 f1 f2 f3 f4 f5 f6 f7 z3 z0 m0 m1 m2 j1 r0 r1 r2 r3 s0 s1 s2 s3 s4 s5 s6 s7 t0 t1
      refine (field_ok W H GA PA gc pc G P s A c cx cy Z pw.tab pw.g pw.p pw.s1 HOK.out).mono ?_
      rintro e w5 ⟨rfl, hb5⟩
      have B5 := after_ BwZ hb5
      replace pw := pw.below hb5
      have hx1 := M.field_le HOK.out
      have hx2 := M.field_bd HOK.out
      have HFO := Lib.hid (M.oth_field W G s cx cy more)
      have HOK2 := Lib.hid (M.oth_ok (more := more) HOK.out (by omega) (by omega))
      obtain ⟨r0, r1, r2, r3⟩ := pw.bt.c4
      obtain ⟨s0, s1, s2, s3, s4, s5, s6, s7⟩ := pw.bo.c8
      obtain ⟨t0, t1⟩ := pw.bc.c2
      go_wp2_with fail
      clear r0 r1 r2 r3 s0 s1 s2 s3 s4 s5 s6 s7 t0 t1
      refine (field_ok W H GA PA gc pc G P (M.oth s more) O oc cx cy w5 pw.tab pw.g pw.p pw.o1 HOK2.out).mono ?_
      rintro e w6 ⟨rfl, hb6⟩
      rw [HFO.out]
      have B6 := after_ B5 hb6
      replace pw := pw.below hb6
      have kF : Hid (∀ w1, Tab w1 → Sl 1 icell w1 w1.heap.size GA G → Sl 1 icell w1 w1.heap.size PA P → Sl 1 icell w1 w1.heap.size A s.pat → Calls Tryd.prog 10 #[tv W H GA PA G.length gc P.length pc, stv s A c, cv s.x s.y] w1 fun e w' => e = .returned (.tuple #[.int .i64 s.pw, .int .i64 0]) ∧ Below w1.heap.size w1 w') := Lib.hid (fun w1 h1 h2 h3 h4 => by
        have := field_ok W H GA PA gc pc G P s A c s.x s.y w1 h1 h2 h3 h4 (M.okF_self HOK.out)
        rwa [M.field_self] at this)
      obtain ⟨r0, r1, r2, r3⟩ := pw.bt.c4
      obtain ⟨s0, s1, s2, s3, s4, s5, s6, s7⟩ := pw.bs.c8
      have l0 := pw.bt.lt
      have l1 := pw.bs.lt
      have tb := pw.tab
      have e1 := pw.g
      have e2 := pw.p
      have e3 := pw.s1
      generalize M.field W G s cx cy = F at *
      go_wp2_with fail
      refine wp_region_kept w6.heap.size w6 (by kernel_rfl) (by kernel_rfl) (Below.refl _ _) ?_
      repeat (go_big_quiet_step ((first | (go_at_call 23; exact Kept.calls (Nat.le_refl _) (rCell_any s A c _)) | (go_at_call 10; exact Kept.calls (Nat.le_refl _) (kF.out _ (tb.kept (Kept.h _)) e1.kept e2.kept e3.kept)))))
      refine wpQuiet_nil ?_
      rintro w7 ⟨⟨_, hb7⟩, rfl⟩
      have B7 := after_ B6 hb7
      replace pw := pw.below hb7
      clear r0 r1 r2 r3 s0 s1 s2 s3 s4 s5 s6 s7 l0 l1 tb e1 e2 e3 kF HFO
      obtain ⟨hl1, hl2, hl3, hl4, hl5⟩ := M.lohi (more := more) HSVA.out (by omega) (by omega)
      have HL1 := Lib.hid hl1; have HL2 := Lib.hid hl2; have HL3 := Lib.hid hl3; have HL4 := Lib.hid hl4; have HL5 := Lib.hid hl5
      clear hl1 hl2 hl3 hl4 hl5
      obtain ⟨V8, HV8, l8, hb8, -⟩ := boxes1 w7 #[.int .i64 s.id, .int .i64 s.x, .int .i64 s.y, .int .i64 s.pw, .int .i64 s.h, .slice A s.pat.length c, .int .i64 s.band, .int .i64 s.ch, .int .i64 (M.oth s more).id, .int .i64 (M.oth s more).x, .int .i64 (M.oth s more).y, .int .i64 (M.oth s more).pw, .int .i64 (M.oth s more).h, .slice O (M.oth s more).pat.length oc, .int .i64 (M.oth s more).band, .int .i64 (M.oth s more).ch] 28
      have B8 := after_ B7 hb8
      have hLs : Sl 8 secell V8 V8.heap.size (some ⟨w7.heap.size, 0, none⟩) [⟨s, A, c⟩, ⟨M.oth s more, O, oc⟩] := Sl.of_box l8 rfl
      obtain ⟨s0, s1, s2, s3, s4, s5, s6, s7⟩ := pw.bs.c8
      obtain ⟨t0, t1, t2, t3, t4, t5, t6, t7⟩ := pw.bo.c8
      have qq1 : decide (s.pw < F) = false := decide_eq_false (by omega)
      have qq2 : (F + more != F + more) = false := by simp
      have qq3 : (s.pw != s.pw) = false := by simp
      have hV8 := HV8.out
      go_wp2_with fail
      clear hV8 s0 s1 s2 s3 s4 s5 s6 s7 t0 t1 t2 t3 t4 t5 t6 t7 qq1 qq2 qq3
      replace pw := pw.below hb8
      refine (sort_two (some ⟨w7.heap.size, 0, none⟩) 2 s (M.oth s more) _ _ A O c oc V8 hLs pw.s1 pw.o1 (by omega) (show s.pat.length ≤ 1000 by omega) HL1.out).mono ?_
      rintro e w9 ⟨OA, o9, O1, oc1, O2, oc2, rfl, hSO, hP1, hP2, hb9⟩
      have B9 := after_ B8 hb9
      replace pw := pw.below hb9
      obtain ⟨V10, HV10, l10, hb10, -⟩ := boxes1 w9 #[.int .i64 (M.oth s more).id, .int .i64 (M.oth s more).x, .int .i64 (M.oth s more).y, .int .i64 (M.oth s more).pw, .int .i64 (M.oth s more).h, .slice O (M.oth s more).pat.length oc, .int .i64 (M.oth s more).band, .int .i64 (M.oth s more).ch, .int .i64 s.id, .int .i64 s.x, .int .i64 s.y, .int .i64 s.pw, .int .i64 s.h, .slice A s.pat.length c, .int .i64 s.band, .int .i64 s.ch] 28
      have B10 := after_ B9 hb10
      have hLt : Sl 8 secell V10 V10.heap.size (some ⟨w9.heap.size, 0, none⟩) [⟨M.oth s more, O, oc⟩, ⟨s, A, c⟩] := Sl.of_box l10 rfl
      obtain ⟨s0, s1, s2, s3, s4, s5, s6, s7⟩ := pw.bs.c8
      obtain ⟨t0, t1, t2, t3, t4, t5, t6, t7⟩ := pw.bo.c8
      have hV10 := HV10.out
      go_wp2_with fail
      clear hV10 s0 s1 s2 s3 s4 s5 s6 s7 t0 t1 t2 t3 t4 t5 t6 t7
      replace pw := pw.below hb10
      replace hSO := (hSO.below hb10).more hb10.size
      replace hP1 := (hP1.below hb10).more hb10.size
      replace hP2 := (hP2.below hb10).more hb10.size
      refine (sort_two (some ⟨w9.heap.size, 0, none⟩) 2 (M.oth s more) s _ _ O A oc c V10 hLt pw.o1 pw.s1 (show s.pat.length ≤ 1000 by omega) (by omega) HL2.out).mono ?_
      rintro e w11 ⟨OB, o11, O3, oc3, O4, oc4, rfl, hSP, hP3, hP4, hb11⟩
      have B11 := after_ B10 hb11
      replace pw := pw.below hb11
      replace hSO := (hSO.below hb11).more hb11.size
      replace hP1 := (hP1.below hb11).more hb11.size
      replace hP2 := (hP2.below hb11).more hb11.size
      have hlp : (M.lo s more).pat.length ≤ 1000 := by rw [HL4.out]; omega
      have hhp : (M.hi s more).pat.length ≤ 1000 := by rw [HL5.out]; omega
      have hlt := HL3.out
      have tb := pw.tab
      clear pw l8 l10 hLs hLt
      generalize M.lo s more = lo at *
      generalize M.hi s more = hi at *
      have qid : decide (lo.id < hi.id) = true := decide_eq_true hlt
      obtain ⟨oa, rfl, ob, a0, a1, a2, a3, a4, a5, a6, a7⟩ := hSO.st8 (k := 0) (by simp)
      obtain ⟨oa', eoa, ob', b0, b1, b2, b3, b4, b5, b6, b7⟩ := hSO.st8 (k := 1) (by simp)
      obtain rfl := Option.some.inj eoa
      clear eoa
      obtain ⟨pa, rfl, pb, c0, c1, c2, c3, c4, c5, c6, c7⟩ := hSP.st8 (k := 0) (by simp)
      obtain ⟨pa', epa, pb', d0, d1, d2, d3, d4, d5, d6, d7⟩ := hSP.st8 (k := 1) (by simp)
      obtain rfl := Option.some.inj epa
      clear epa
      simp only [List.getElem_cons_zero, List.getElem_cons_succ] at a0 a1 a2 a3 a4 a5 a6 a7 b0 b1 b2 b3 b4 b5 b6 b7 c0 c1 c2 c3 c4 c5 c6 c7 d0 d1 d2 d3 d4 d5 d6 d7
      rw [show oa.add (0 * 8) = oa by simp [Addr.add]] at a0 a1 a2 a3 a4 a5 a6 a7 ob
      rw [show oa.add (1 * 8) = ⟨oa.block, oa.off + 8, none⟩ by simp [Addr.add]] at b0 b1 b2 b3 b4 b5 b6 b7
      rw [show pa.add (0 * 8) = pa by simp [Addr.add]] at c0 c1 c2 c3 c4 c5 c6 c7 pb
      rw [show pa.add (1 * 8) = ⟨pa.block, pa.off + 8, none⟩ by simp [Addr.add]] at d0 d1 d2 d3 d4 d5 d6 d7
      dsimp only at b0 b1 b2 b3 b4 b5 b6 b7 d0 d1 d2 d3 d4 d5 d6 d7
      clear ob' pb'
      go_wp2_with fail
      refine wp_region_kept w11.heap.size w11 (by kernel_rfl) (by kernel_rfl) (Below.refl _ _) ?_
      repeat (go_big_quiet_step ((first | (go_at_call 19; with_reducible exact Kept.calls (Nat.le_refl _) (keq lo O1 O3 oc1 oc3 _ hP1.kept hP3.kept hlp)) | (go_at_call 19; with_reducible exact Kept.calls (Nat.le_refl _) (keq hi O2 O4 oc2 oc4 _ hP2.kept hP4.kept hhp)) | (go_at_call 9; exact Kept.calls (Nat.le_refl _) (known_any _ (tb.kept (Kept.h _)))))))
      refine wpQuiet_nil ?_
      rintro w12 ⟨⟨_, hb12⟩, rfl⟩
      go_wp2_with fail
      go_ret
      exact ⟨rfl, after_ B11 hb12⟩
end Go.Proofs.YtfcaikahdcpglaaDoor
