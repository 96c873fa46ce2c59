/- A bundle of texts: LawGr, RServed. -/
import Derived.Test.YtihepapjopcagaaGreatDoorB20
import Derived.Test.YtihepapjopcagaaGreatDoorB19
/- The walk of the law ServiceGrows. -/
section
namespace Go.Proofs.YtihepapjopcagaaGreatDoor
open Go Go.RowKit
set_option maxRecDepth 100000

def M.pvTo (P o : List Int) (k : Nat) : Int := ((o.take k).map (M.pv P)).sum
theorem M.pvTo_succ {P o : List Int} {k : Nat} (h : k < o.length) : M.pvTo P o (k + 1) = M.pvTo P o k + M.pv P o[k] := by
  unfold M.pvTo
  rw [List.take_succ_eq_append_getElem h, List.map_append, List.sum_append]
  simp
theorem M.pv_le {P : List Int} (hP : ∀ g ∈ P, 0 ≤ g ∧ g ≤ 1000000) (x : Int) : 0 ≤ M.pv P x ∧ M.pv P x ≤ 1000000 := by
  unfold M.pv
  rw [List.getD_eq_getElem?_getD]
  cases h : P[x.toNat]? with
  | none => simp
  | some v => exact hP v (List.mem_of_getElem? h)
theorem M.pvTo_bd {P o : List Int} (hP : ∀ g ∈ P, 0 ≤ g ∧ g ≤ 1000000) : ∀ k, k ≤ o.length → 0 ≤ M.pvTo P o k ∧ M.pvTo P o k ≤ 1000000 * k
  | 0, _ => by simp [M.pvTo]
  | k + 1, h => by
    have := M.pvTo_bd hP (o := o) k (by omega)
    have := M.pv_le hP o[k]
    rw [M.pvTo_succ (by omega)]
    omega
theorem M.pvTo_all (P o : List Int) : M.pvTo P o o.length = (o.map (M.pv P)).sum := by unfold M.pvTo; rw [List.take_length]
theorem M.chk_no {W H : Int} {G P : List Int} {s t : St} (h : M.okS W H G P s = false ∨ M.okS W H G P t = false) : M.chk W H G P [s, t] = 2 := by
  unfold M.chk
  rw [if_neg]
  intro h2
  rw [Bool.and_eq_true, List.all_eq_true] at h2
  have h3 := h2.2 s (by simp)
  have h4 := h2.2 t (by simp)
  rcases h with h | h <;> simp_all

set_option maxHeartbeats 32000000 in
theorem serviceGrows_walk (W H : Int) (GA PA : Option Addr) (gc pc : Nat) (G P : List Int) (s : St) (A : Option Addr) (c : Nat) (t : St) (B : Option Addr) (d : Nat) (more : Int) (w : World) (ht : Tab w) (h64 : Tab64 w) (hg : Sl 1 icell w w.heap.size GA G) (hp : Sl 1 icell w w.heap.size PA P) (hS : Sl 1 icell w w.heap.size A s.pat) (hT : Sl 1 icell w w.heap.size B t.pat) :
    Calls Tryz.prog 6 #[tv W H GA PA G.length gc P.length pc, stv s A c, stv t B d, .int .i64 more] w fun e w' => e = .returned (.bool true) ∧ Below w.heap.size w w' := by
  obtain ⟨V, HW, x0, x1, x2, hB, -⟩ := boxes3 w #[.int .i64 W, .int .i64 H, .slice GA G.length gc, .slice PA P.length pc] 30 (stc s A c) 34 (stc t B d) 34
  have lw : LW w V w.heap.size W H GA PA gc pc G P := ⟨x0, (hg.below hB).more hB.size, (hp.below hB).more hB.size, ht.kept hB, h64.kept hB, hB⟩
  have sw : SW V (w.heap.size + 1) s A c := ⟨x1, (hS.below hB).more hB.size⟩
  have tw : SW V (w.heap.size + 1 + 1) t B d := ⟨x2, (hT.below hB).more hB.size⟩
  clear x0 x1 x2
  obtain ⟨U, HU, u0, hbU, -⟩ := boxes1 V #[.int .i64 s.id, .int .i64 s.x, .int .i64 s.y, .int .i64 s.pw, .int .i64 s.h, .slice A s.pat.length c, .int .i64 s.band, .int .i64 s.ch, .int .i64 t.id, .int .i64 t.x, .int .i64 t.y, .int .i64 t.pw, .int .i64 t.h, .slice B t.pat.length d, .int .i64 t.band, .int .i64 t.ch] 34
  obtain ⟨bg, hbig⟩ : ∃ bg, M.big G.length P.length [s, t] = bg := ⟨_, rfl⟩
  have kB := big14_any W H GA PA gc pc G.length P.length (some ⟨V.heap.size, 0, none⟩) 2 [⟨s, A, c⟩, ⟨t, B, d⟩] U (Sl.of_box u0 rfl)
  rw [show ([⟨s, A, c⟩, ⟨t, B, d⟩] : List SE).map (·.s) = [s, t] from rfl, hbig] at kB
  obtain ⟨c0, c1, c2, c3⟩ := lw.t.c4
  obtain ⟨b0, b1, b2, b3, b4, b5, b6, b7⟩ := sw.box.c8
  obtain ⟨d0, d1, d2, d3, d4, d5, d6, d7⟩ := tw.box.c8
  have hV := HW.out
  have hU := HU.out
  go_enter Tryz.func6, Tryz.ntmps6
  go_wp2_with fail
  clear hV hU c0 c1 c2 c3 b0 b1 b2 b3 b4 b5 b6 b7 d0 d1 d2 d3 d4 d5 d6 d7
  refine kB.mono ?_
  rintro e w1 ⟨rfl, hb1⟩
  have hb := after_ hbU hb1
  replace lw := lw.next hb
  replace sw := sw.next hb
  replace tw := tw.next hb
  clear hb hb1 hbU u0 kB hB
  cases bg with
  | true =>
    go_wp2_with fail
    refine lw.known.mono ?_
    rintro e x9 ⟨rfl, hb9⟩
    go_wp2_with fail
    go_ret
    exact ⟨rfl, hb9⟩
  | false =>
    obtain ⟨l1, l2, -, l3⟩ := M.big_no hbig
    have l4 := l3 s (by simp)
    have l5 := l3 t (by simp)
    clear l3 hbig
    obtain ⟨c0, c1, c2, c3⟩ := lw.t.c4
    obtain ⟨b0, b1, b2, b3, b4, b5, b6, b7⟩ := sw.box.c8
    go_wp2_with fail
    clear c0 c1 c2 c3 b0 b1 b2 b3 b4 b5 b6 b7
    refine (rAllowed14_any W H GA PA gc pc G P s A c _ lw.g lw.p sw.p (by omega) (by omega)).mono ?_
    rintro e x1 ⟨rfl, hbx⟩
    replace lw := lw.next hbx
    replace sw := sw.next hbx
    replace tw := tw.next hbx
    clear hbx
    cases hok : M.okS W H G P s with
    | false =>
      go_wp2_with fail
      refine lw.known.mono ?_
      rintro e x9 ⟨rfl, hb9⟩
      go_wp2_with fail
      go_ret
      exact ⟨rfl, hb9⟩
    | true =>
      obtain ⟨c0, c1, c2, c3⟩ := lw.t.c4
      obtain ⟨d0, d1, d2, d3, d4, d5, d6, d7⟩ := tw.box.c8
      go_wp2_with fail
      clear c0 c1 c2 c3 d0 d1 d2 d3 d4 d5 d6 d7
      refine (rAllowed14_any W H GA PA gc pc G P t B d _ lw.g lw.p tw.p (by omega) (by omega)).mono ?_
      rintro e x2 ⟨rfl, hbx⟩
      replace lw := lw.next hbx
      replace sw := sw.next hbx
      replace tw := tw.next hbx
      clear hbx
      cases hok2 : M.okS W H G P t with
      | false =>
        go_wp2_with fail
        refine lw.known.mono ?_
        rintro e x9 ⟨rfl, hb9⟩
        go_wp2_with fail
        go_ret
        exact ⟨rfl, hb9⟩
      | true =>
        obtain ⟨hsv, htv, -, -⟩ := M.okS_iff.1 hok
        have hpw := (M.svalid_iff.1 hsv).2.2.2.1
        have hbd := M.band_in hsv
        obtain ⟨r1, r2, r3, r4, r5, r6⟩ := M.tvalid_iff.1 htv
        by_cases g1 : more < 0
        · have p1 : decide (more < 0) = true := decide_eq_true g1
          go_wp2_with fail
          refine lw.known.mono ?_
          rintro e x9 ⟨rfl, hb9⟩
          go_wp2_with fail
          go_ret
          exact ⟨rfl, hb9⟩
        have p1 : decide (more < 0) = false := decide_eq_false g1
        by_cases g2 : 300 < more
        · have p2 : decide (300 < more) = true := decide_eq_true g2
          go_wp2_with fail
          refine lw.known.mono ?_
          rintro e x9 ⟨rfl, hb9⟩
          go_wp2_with fail
          go_ret
          exact ⟨rfl, hb9⟩
        have p2 : decide (300 < more) = false := decide_eq_false g2
        have hb3 := sw.box.c8.2.2.2.1
        by_cases g3 : 300 < s.pw + more
        · have p3 : decide (300 < s.pw + more) = true := decide_eq_true g3
          go_wp2_with fail
          refine lw.known.mono ?_
          rintro e x9 ⟨rfl, hb9⟩
          go_wp2_with fail
          go_ret
          exact ⟨rfl, hb9⟩
        have p3 : decide (300 < s.pw + more) = false := decide_eq_false g3
        have hst := M.strg_ok (more := more) hok (by omega) (by omega)
        obtain ⟨wh1, wh2⟩ := M.wh_le r1 r2
        have hla : (M.area W H G s).length ≤ 4096 := Nat.le_trans M.area_len (by omega)
        have hlc : (M.area W H G (M.strg s more)).length ≤ 4096 := Nat.le_trans M.area_len (by omega)
        have hlb : (M.area W H G t).length ≤ 4096 := Nat.le_trans M.area_len (by omega)
        have hol : (M.over W H G s t).length ≤ 4096 := Nat.le_trans M.over_len (by omega)
        have HTV := Lib.hid htv
        have HR6 := Lib.hid r6
        have HB := Lib.hid (M.area_more W H G s (more := more) (by omega))
        have HZ := Lib.hid (M.reach_two W H G P s t)
        have HLS := Lib.hid (M.area_some hok)
        have HCV := Lib.hid (M.cov_self W G s)
        have HOF : Hid (M.okF W H G P s s.x s.y = true) := Lib.hid hok
        have tx := M.totl_bd (P := P) (l := M.area W H G s) r6 (by omega)
        have ty := M.totl_bd (P := P) (l := M.area W H G t) r6 (by omega)
        have HHS := Lib.hid hst
        clear hsv htv r3 r5 r6 hst
        obtain ⟨b0, b1, b2, b3, b4, b5, b6, b7⟩ := sw.box.c8
        go_wp2_with fail
        clear p1 p2 p3 b0 b1 b2 b3 b4 b5 b6 b7 hb3
        refine (rSCopy_ok s A c _ sw.p (by omega)).mono ?_
        rintro e y0 ⟨A2, c2, rfl, o2, hbx⟩
        have hC := Sl.of_own (by decide) o2
        replace lw := lw.next hbx
        replace sw := sw.next hbx
        replace tw := tw.next hbx
        clear hbx o2
        obtain ⟨X, HX, o0, hbX, -⟩ := boxes1 y0 (stc s A2 c2) 34
        have o1 : Box (X.setCell ⟨y0.heap.size, 3, none⟩ (.int .i64 (s.pw + more))) y0.heap.size (stc (M.strg s more) A2 c2) 34 := o0.set 3 (.int .i64 (s.pw + more))
        obtain ⟨Y, HY⟩ : ∃ Y, Hid (X.setCell ⟨y0.heap.size, 3, none⟩ (.int .i64 (s.pw + more)) = Y) := ⟨_, Lib.hid rfl⟩
        have bY : Below y0.heap.size y0 Y := by rw [← HY.out]; exact hbX.setCell (p := ⟨y0.heap.size, 3, none⟩) (Nat.le_refl _) _
        rw [HY.out] at o1
        have f3 := o0.frozen 3
        obtain ⟨k0, k1, k2, k3, k4, k5, k6, k7⟩ := o0.c8
        have jj := ((sw.box.below hbX).c8).2.2.2.1
        have hX := HX.out
        have hY := HY.out
        replace lw := lw.next bY
        replace sw := sw.next bY
        replace tw := tw.next bY
        replace hC := (hC.below bY).more bY.size
        obtain ⟨c0, c1, c2, c3⟩ := lw.t.c4
        obtain ⟨b0, b1, b2, b3, b4, b5, b6, b7⟩ := sw.box.c8
        go_wp2_with fail
        clear hX hY k0 k1 k2 k3 k4 k5 k6 k7 jj f3 c0 c1 c2 c3 b0 b1 b2 b3 b4 b5 b6 b7
        refine (area_ok W H GA PA gc pc G P s A c _ lw.tab lw.g lw.p sw.p hok).mono ?_
        rintro e x3 ⟨LA, lc, rfl, hL, hbx⟩
        replace lw := lw.next hbx
        replace sw := sw.next hbx
        replace tw := tw.next hbx
        replace hC := (hC.below hbx).more hbx.size
        replace o1 := o1.below hbx
        clear hbx
        obtain ⟨c0, c1, c2, c3⟩ := lw.t.c4
        obtain ⟨m0, m1, m2, m3, m4, m5, m6, m7⟩ := o1.c8
        go_wp2_with fail
        clear c0 c1 c2 c3 m0 m1 m2 m3 m4 m5 m6 m7
        refine (area_ok W H GA PA gc pc G P (M.strg s more) A2 c2 _ lw.tab lw.g lw.p hC HHS.out).mono ?_
        rintro e x4 ⟨MA, mc, rfl, hM, hbx⟩
        replace lw := lw.next hbx
        replace sw := sw.next hbx
        replace tw := tw.next hbx
        replace hC := (hC.below hbx).more hbx.size
        replace hL := (hL.below hbx).more hbx.size
        replace o1 := o1.below hbx
        clear hbx
        clear o1 hC
        go_wp2_with fail
        refine (rBoth_ok LA MA lc mc _ _ _ hL hM (by omega) (by omega)).mono ?_
        rintro e x5 ⟨QA, qc, rfl, hQ, hbx⟩
        replace lw := lw.next hbx
        replace sw := sw.next hbx
        replace tw := tw.next hbx
        replace hL := (hL.below hbx).more hbx.size
        clear hbx
        rw [HB.out] at hQ ⊢
        have kE := equal14_any QA LA qc lc _ _ _ hQ hL (by omega)
        rw [decide_eq_true rfl] at kE
        clear hM
        go_wp2_with fail
        refine (kE).mono ?_
        rintro e x6 ⟨rfl, hbx⟩
        replace lw := lw.next hbx
        replace sw := sw.next hbx
        replace tw := tw.next hbx
        replace hL := (hL.below hbx).more hbx.size
        clear hbx
        clear kE hQ
        clear hL
        obtain ⟨c0, c1, c2, c3⟩ := lw.t.c4
        obtain ⟨b0, b1, b2, b3, b4, b5, b6, b7⟩ := sw.box.c8
        go_wp2_with fail
        clear c0 c1 c2 c3 b0 b1 b2 b3 b4 b5 b6 b7
        refine (people_ok W H GA PA gc pc G P s A c _ lw.tab lw.g lw.p sw.p hok).mono ?_
        rintro e x7 ⟨rfl, hbx⟩
        replace lw := lw.next hbx
        replace sw := sw.next hbx
        replace tw := tw.next hbx
        clear hbx
        obtain ⟨c0, c1, c2, c3⟩ := lw.t.c4
        obtain ⟨d0, d1, d2, d3, d4, d5, d6, d7⟩ := tw.box.c8
        go_wp2_with fail
        clear c0 c1 c2 c3 d0 d1 d2 d3 d4 d5 d6 d7
        refine (people_ok W H GA PA gc pc G P t B d _ lw.tab lw.g lw.p tw.p hok2).mono ?_
        rintro e x8 ⟨rfl, hbx⟩
        replace lw := lw.next hbx
        replace sw := sw.next hbx
        replace tw := tw.next hbx
        clear hbx
        obtain ⟨c0, c1, c2, c3⟩ := lw.t.c4
        obtain ⟨b0, b1, b2, b3, b4, b5, b6, b7⟩ := sw.box.c8
        obtain ⟨d0, d1, d2, d3, d4, d5, d6, d7⟩ := tw.box.c8
        go_wp2_with fail
        clear c0 c1 c2 c3 b0 b1 b2 b3 b4 b5 b6 b7 d0 d1 d2 d3 d4 d5 d6 d7
        refine (overlap_ok W H GA PA gc pc G P s A c t B d _ lw.tab lw.g lw.p sw.p tw.p hok hok2).mono ?_
        rintro e x9 ⟨OA, oc, rfl, hO, hbx⟩
        replace lw := lw.next hbx
        replace sw := sw.next hbx
        replace tw := tw.next hbx
        clear hbx
        obtain ⟨X2, HX2, u2, hbX2, -⟩ := boxes1 x9 #[.int .i64 s.id, .int .i64 s.x, .int .i64 s.y, .int .i64 s.pw, .int .i64 s.h, .slice A s.pat.length c, .int .i64 s.band, .int .i64 s.ch, .int .i64 t.id, .int .i64 t.x, .int .i64 t.y, .int .i64 t.pw, .int .i64 t.h, .slice B t.pat.length d, .int .i64 t.band, .int .i64 t.ch] 34
        have hX2 := HX2.out
        obtain ⟨c0, c1, c2, c3⟩ := lw.t.c4
        obtain ⟨b0, b1, b2, b3, b4, b5, b6, b7⟩ := sw.box.c8
        obtain ⟨d0, d1, d2, d3, d4, d5, d6, d7⟩ := tw.box.c8
        go_wp2_with fail
        clear hX2 c0 c1 c2 c3 b0 b1 b2 b3 b4 b5 b6 b7 d0 d1 d2 d3 d4 d5 d6 d7
        replace lw := lw.next hbX2
        replace sw := sw.next hbX2
        replace tw := tw.next hbX2
        replace hO := (hO.below hbX2).more hbX2.size
        have kR := reach_ok W H GA PA gc pc G P (some ⟨x9.heap.size, 0, none⟩) 2 [⟨s, A, c⟩, ⟨t, B, d⟩] X2 lw.tab lw.g lw.p (Sl.of_box u2 rfl) (pats2 sw.p tw.p) (by simp) HTV.out (okE2 hok hok2)
        rw [show ([⟨s, A, c⟩, ⟨t, B, d⟩] : List SE).map (·.s) = [s, t] from rfl] at kR
        refine kR.mono ?_
        rintro e z0 ⟨rfl, hbx⟩
        replace lw := lw.next hbx
        replace sw := sw.next hbx
        replace tw := tw.next hbx
        replace hO := (hO.below hbx).more hbx.size
        clear hbx kR u2 hbX2 HX2
        have HOI := Lib.hid (M.over_in (W := W) (H := H) (G := G) (s := s) (t := t))
        have hz := HZ.out
        have HPV := Lib.hid (M.pvTo_all P (M.over W H G s t))
        rw [← HPV.out] at hz
        have tb := M.pvTo_bd (P := P) (o := M.over W H G s t) HR6.out _ (Nat.le_refl _)
        have HZ2 := Lib.hid hz
        clear hz HZ HPV HB
        generalize M.total P (M.area W H G s) = vx at *
        generalize M.total P (M.area W H G t) = vy at *
        generalize M.total P (M.reachL W H G [s, t]) = vz at *
        generalize M.over W H G s t = ov at *
        go_wp2_with fail
        go_loopw [22, 23] (fun bo i wr => ∃ k : Nat, k ≤ ov.length ∧ i = .int .i64 k ∧ bo = .int .i64 (M.pvTo P ov k) ∧ Below z0.heap.size z0 wr) (fun _ i _ => ov.length - (intOf i).toNat)
        case atStart => exact ⟨0, Nat.zero_le _, rfl, rfl, Below.refl _ _⟩
        case round =>
          obtain ⟨k, hk, rfl, rfl, hBr⟩ := hrel
          have lr := lw.next hBr
          have hOr := (hO.below hBr).more hBr.size
          have tk := M.pvTo_bd (P := P) (o := ov) HR6.out k hk
          by_cases hlt : k < ov.length
          · have hx := HOI.out ov[k] (List.getElem_mem hlt)
            have HS1 := Lib.hid (M.pvTo_succ (P := P) hlt)
            have hpv := M.pv_le HR6.out ov[k]
            obtain ⟨la, rfl, hlb, a0⟩ := hOr.one_at hlt
            simp only [icell] at a0
            obtain ⟨j, hj⟩ : ∃ j : Nat, ov[k] = (j : Int) := ⟨ov[k].toNat, by omega⟩
            rw [hj] at a0 hx hpv HS1
            clear hj
            have hjP : j < P.length := by omega
            have epv : M.pv P (j : Int) = P[j] := by unfold M.pv; rw [Int.toNat_natCast, List.getD_eq_getElem?_getD, List.getElem?_eq_getElem hjP]; rfl
            rw [epv] at hpv HS1
            clear epv
            obtain ⟨pa, rfl, hpb, p0⟩ := lr.p.one_at hjP
            simp only [icell] at p0
            have c3 := lr.t.c4.2.2.2
            have l0 := lr.t.lt
            have l1 : (la.add k).block < wr.heap.size := by first | exact hlb | (rw [add_block]; exact hlb)
            have l2 : (pa.add j).block < wr.heap.size := by first | exact hpb | (rw [add_block]; exact hpb)
            generalize P[j] = pj at *
            generalize M.pvTo P ov k = sk at *
            have q1 : decide ((j : Int) < 0) = false := decide_eq_false (by omega)
            have q2 : decide ((P.length : Int) ≤ (j : Int)) = false := decide_eq_false (by omega)
            clear hx
            go_wp2_with fail
            refine wp_region_kept wr.heap.size wr (by kernel_rfl) (by kernel_rfl) (Below.refl _ _) ?_
            repeat (go_big_quiet_step (fail))
            refine wpQuiet_nil ?_
            rintro w5 ⟨⟨w5x, hb5⟩, hw5⟩
            dsimp only at hw5
            subst hw5
            have B5 := after_ hBr hb5
            have a5 := (hb5.cell (p := la.add k) l1).trans a0
            have p5 := (hb5.cell (p := pa.add j) l2).trans p0
            have c5 := (lr.t.below hb5).c4.2.2.2
            have m0 := Nat.lt_of_lt_of_le l0 hb5.size
            have m1 := Nat.lt_of_lt_of_le l1 hb5.size
            have m2 := Nat.lt_of_lt_of_le l2 hb5.size
            clear a0 p0 c3 l0 l1 l2
            go_wp2_with fail
            refine wp_region_kept w5.heap.size w5 (by kernel_rfl) (by kernel_rfl) (Below.refl _ _) ?_
            repeat (go_big_quiet_step (fail))
            refine wpQuiet_nil ?_
            rintro w6 ⟨⟨_, hb6⟩, rfl⟩
            go_wp2_with fail
            go_roundw
            case rel => exact ⟨k + 1, hlt, by go_num, by rw [HS1.out], after_ B5 hb6⟩
            case measure => simp [intOf]; omega
          · obtain rfl : k = ov.length := by omega
            replace lw := lr
            replace sw := sw.next hBr
            clear lr hOr hO tw
            obtain ⟨c0, c1, c2, c3⟩ := lw.t.c4
            obtain ⟨b0, b1, b2, b3, b4, b5, b6, b7⟩ := sw.box.c8
            have l0 := lw.t.lt
            have l1 := sw.box.lt
            have hg1 := lw.g
            have hp1 := lw.p
            have hS1 := sw.p
            have tb1 := lw.tab
            have kC : Hid (∀ u : Kept wr.heap.size wr, Calls Tryz.prog 14 #[tv W H GA PA G.length gc P.length pc, stv s A c, cv s.x s.y] u.val fun e w' => e = .returned (.tuple #[.bool (M.cov W G s s.x s.y), .int .i64 0]) ∧ Below u.val.heap.size u.val w') := Lib.hid (fun u => covers_ok W H GA PA gc pc G P s A c s.x s.y u.val (tb1.kept u.h) hg1.kept hp1.kept hS1.kept HOF.out)
            rw [HCV.out] at kC
            go_wp2_with fail
            refine wp_region_kept wr.heap.size wr (by kernel_rfl) (by kernel_rfl) (Below.refl _ _) ?_
            repeat (go_big_quiet_step (first | (go_at_call 25; exact Kept.calls (Nat.le_refl _) (rCell_any s A c _)) | (go_at_call 14; exact Kept.calls (Nat.le_refl _) (kC.out _))))
            refine wpQuiet_nil ?_
            rintro w6 ⟨⟨_, hb6⟩, rfl⟩
            replace lw := lw.next hb6
            replace sw := sw.next hb6
            clear c0 c1 c2 c3 b0 b1 b2 b3 b4 b5 b6 b7 l0 l1 hg1 hp1 hS1 tb1 kC
            have b5 := sw.box.c8.2.2.2.2.2.2.1
            go_wp2_with fail
            refine (threshold_ok s.band _ hbd).mono ?_
            rintro e w7 ⟨rfl, rfl⟩
            have b3 := sw.box.c8.2.2.2.1
            obtain ⟨nl, hnl⟩ : ∃ nl, (M.area W H G s).length = nl := ⟨_, rfl⟩
            have hls := HLS.out
            rw [hnl] at hls hla
            have q3 : decide ((0 : Int) < (nl : Int)) = decide (M.thr s.band ≤ s.pw) := by rw [← hls, decide_eq_decide]; omega
            have q4 : (decide (M.thr s.band ≤ s.pw) == decide (M.thr s.band ≤ s.pw)) = true := by simp
            have hz2 := HZ2.out
            generalize M.pvTo P ov ov.length = vb at *
            have q5 : (vz == vx + vy - vb) = true := by simp [hz2]
            have HZ3 := Lib.hid hz2
            clear hz2
            rw [hnl]
            go_wp2_with fail
            refine lw.known.mono ?_
            rintro e x9 ⟨rfl, hb9⟩
            go_wp2_with fail
            go_ret
            exact ⟨rfl, hb9⟩
end Go.Proofs.YtihepapjopcagaaGreatDoor
end

/- The document's Served of layer 14. -/
section
namespace Go.Proofs.YtihepapjopcagaaGreatDoor
open Go Go.RowKit
set_option maxRecDepth 100000

/-- Whether a number is one of a station that covers a cell. -/
def M.svAny (W : Int) (G : List Int) (cx cy : Int) (id : Nat) (l : List St) : Bool := l.any fun s => decide (s.id = (id : Int)) && M.cov W G s cx cy
def M.svTo (W : Int) (G : List Int) (cx cy : Int) (l : List St) (n : Nat) : List Int := ((List.range n).filter fun (id : Nat) => M.svAny W G cx cy id l).map fun (i : Nat) => (i : Int)
theorem M.svTo_succ (W : Int) (G : List Int) (cx cy : Int) (l : List St) (n : Nat) : M.svTo W G cx cy l (n + 1) = M.svTo W G cx cy l n ++ if M.svAny W G cx cy n l then [(n : Int)] else [] := by
  unfold M.svTo
  rw [List.range_succ, List.filter_append, List.map_append]
  congr 1
  cases h : M.svAny W G cx cy n l <;> simp [h]
theorem M.svAny_succ {W : Int} {G : List Int} {cx cy : Int} {id : Nat} {l : List SE} {k : Nat} (h : k < l.length) : M.svAny W G cx cy id ((l.take (k + 1)).map (·.s)) = (M.svAny W G cx cy id ((l.take k).map (·.s)) || (decide (l[k].s.id = (id : Int)) && M.cov W G l[k].s cx cy)) := by
  unfold M.svAny
  rw [List.take_succ_eq_append_getElem h, List.map_append, List.any_append]
  simp

set_option maxHeartbeats 16000000 in
theorem rServed_ok (W H : Int) (GA PA : Option Addr) (gc pc : Nat) (G P : List Int) (LA : Option Addr) (lc : Nat) (es : List SE) (cx cy : Int) (w : World) (hg : Sl 1 icell w w.heap.size GA G) (hL : Sl 8 secell w w.heap.size LA es) (hP : Pats w es)
    (hl : es.length ≤ 20) (hok : ∀ e ∈ es, M.okF W H G P e.s cx cy = true) :
    Calls Tryz.prog 30 #[tv W H GA PA G.length gc P.length pc, .slice LA es.length lc, cv cx cy] w (RetS 1 icell w (M.refServed W G cx cy (es.map (·.s)))) := by
  obtain ⟨i0, hi, hz0, hz1, hz2⟩ := info_parts intInfo
  have Hi := Lib.hid hi; have Hz0 := Lib.hid hz0; have Hz1 := Lib.hid hz1; have Hz2 := Lib.hid hz2
  clear hi hz0 hz1 hz2
  obtain ⟨V, HW, x0, x1, hB0, -⟩ := boxes2 w #[.int .i64 W, .int .i64 H, .slice GA G.length gc, .slice PA P.length pc] 30 #[.int .i64 cx, .int .i64 cy] 36
  have HOK := Lib.hid hok
  clear hok
  have HF : Hid (M.svTo W G cx cy (es.map (·.s)) 512 = M.refServed W G cx cy (es.map (·.s))) := Lib.hid rfl
  rw [← HF.out]
  go_enter Tryz.func30, Tryz.ntmps30
  go_wp2_with fail
  rw [HW.out]
  go_loopw [7, 8, 9, 10] (fun out i _ _ wr => ∃ (n : Nat) (os : List Int) (vo : Value), n ≤ 512 ∧ i = .int .i64 n ∧ vo = out ∧ Below V.heap.size V wr ∧ os.length ≤ n ∧ wr.ownsRow V.heap.size 3 1 vo os.length (flat 1 icell os) ∧ Hid (os = M.svTo W G cx cy (es.map (·.s)) n)) (fun _ i _ _ _ => 512 - (intOf i).toNat)
  case atStart => exact ⟨0, [], _, Nat.zero_le _, rfl, rfl, Below.refl _ _, by simp, own_nil _ _ _ _ _, Lib.hid rfl⟩
  case round =>
    obtain ⟨n, os, vo, hn, rfl, rfl, hB, hol, hown, HO⟩ := hrel
    by_cases hlt : n < 512
    · have q7 : decide ((n : Int) < 512) = true := decide_eq_true (by omega)
      go_wp2_with fail
      go_loopw [9, 10] (fun fo i wr => ∃ k : Nat, k ≤ es.length ∧ i = .int .i64 k ∧ Below V.heap.size V wr ∧ fo = .bool (M.svAny W G cx cy n ((es.take k).map (·.s))) ∧ wr.ownsRow V.heap.size 3 1 vo os.length (flat 1 icell os)) (fun _ i _ => es.length - (intOf i).toNat)
      case atStart => exact ⟨0, Nat.zero_le _, rfl, hB, rfl, hown⟩
      case round =>
        clear hown hB
        obtain ⟨k, hk, rfl, hB, rfl, hown⟩ := hrel
        have hBw := after_ hB0 hB
        by_cases hke : k < es.length
        · have HS1 := Lib.hid (M.svAny_succ (W := W) (G := G) (cx := cx) (cy := cy) (id := n) hke)
          obtain ⟨la, rfl, hlb, a0, a1, a2, a3, a4, a5, a6, a7⟩ := ((hL.below hBw).more hBw.size).st8 hke
          have hSk := hP.at_ hke
          have hSw := (hSk.below hBw).more hBw.size
          have hgw := (hg.below hBw).more hBw.size
          have hok := HOK.out es[k] (List.getElem_mem hke)
          obtain ⟨c0, c1, c2, c3⟩ := (x0.below hB).c4
          obtain ⟨d0, d1⟩ := (x1.below hB).c2
          have l0 := (x0.below hB).lt
          have l1 := (x1.below hB).lt
          have kC : Hid (∀ u : Kept wr.heap.size wr, Calls Tryz.prog 16 #[tv W H GA PA G.length gc P.length pc, stv es[k].s es[k].A es[k].c, cv cx cy] u.val fun e w' => e = .returned (.bool (M.cov W G es[k].s cx cy)) ∧ Below u.val.heap.size u.val w') := Lib.hid (fun u => rCovers_ok W H GA PA gc pc G P es[k].s es[k].A es[k].c cx cy u.val hgw.kept hSw.kept hok)
          clear hSk hSw hgw hok
          generalize es[k] = ek at *
          obtain ⟨s, A', c'⟩ := ek
          simp only at a0 a1 a2 a3 a4 a5 a6 a7 kC HS1
          generalize M.cov W G s cx cy = cv0 at *
          cases hfo : M.svAny W G cx cy n ((es.take k).map (·.s)) with
          | true =>
            have HS2 : Hid (M.svAny W G cx cy n ((es.take (k + 1)).map (·.s)) = true) := Lib.hid (by rw [HS1.out, hfo]; rfl)
            go_wp2_with fail
            refine wp_region_kept wr.heap.size wr (by kernel_rfl) (by kernel_rfl) (Below.refl _ _) ?_
            repeat (go_big_quiet_step (fail))
            refine wpQuiet_nil ?_
            rintro w5 ⟨⟨_, hb5⟩, rfl⟩
            go_wp2_with fail
            go_roundw
            case rel => exact ⟨k + 1, hke, by go_num, after_ hB hb5, by rw [HS2.out], own_below hown hb5⟩
            case measure => simp [intOf]; omega
          | false =>
            by_cases hid : s.id = (n : Int)
            · have q1 : (s.id == (n : Int)) = true := by simp [hid]
              have HS2 : Hid (M.svAny W G cx cy n ((es.take (k + 1)).map (·.s)) = cv0) := Lib.hid (by rw [HS1.out, hfo, decide_eq_true hid]; simp)
              clear hid
              go_wp2_with fail
              refine wp_region_kept wr.heap.size wr (by kernel_rfl) (by kernel_rfl) (Below.refl _ _) ?_
              repeat (go_big_quiet_step ((go_at_call 16; exact Kept.calls (Nat.le_refl _) (kC.out _))))
              refine wpQuiet_nil ?_
              rintro w5 ⟨⟨_, hb5⟩, rfl⟩
              go_wp2_with fail
              go_roundw
              case rel => exact ⟨k + 1, hke, by go_num, after_ hB hb5, by rw [HS2.out], own_below hown hb5⟩
              case measure => simp [intOf]; omega
            · have q1 : (s.id == (n : Int)) = false := by simp [hid]
              have HS2 : Hid (M.svAny W G cx cy n ((es.take (k + 1)).map (·.s)) = false) := Lib.hid (by rw [HS1.out, hfo, decide_eq_false hid]; rfl)
              clear hid
              go_wp2_with fail
              refine wp_region_kept wr.heap.size wr (by kernel_rfl) (by kernel_rfl) (Below.refl _ _) ?_
              repeat (go_big_quiet_step (fail))
              refine wpQuiet_nil ?_
              rintro w5 ⟨⟨_, hb5⟩, rfl⟩
              go_wp2_with fail
              go_roundw
              case rel => exact ⟨k + 1, hke, by go_num, after_ hB hb5, by rw [HS2.out], own_below hown hb5⟩
              case measure => simp [intOf]; omega
        · have hks : es.take k = es := List.take_of_length_le (by omega)
          rw [hks]
          have HN := Lib.hid (M.svTo_succ W G cx cy (es.map (·.s)) n)
          cases hfo : M.svAny W G cx cy n (es.map (·.s)) with
          | true =>
            have HN2 := Lib.hid (HN.out.trans (by rw [if_pos hfo]))
            go_wp2_with (at_builtin; refine wpList_push (w0 := V) (cell := icell) (y := (n : Int)) rfl _ _ _ rfl V.heap.size V.heap.size 3 i0 _ 8 Tryz.underlying28 Hi.out Hz0.out Hz1.out Hz2.out rfl (by decide) _ _ _ rfl hown _ _ rfl _ rfl (fun _ => rfl) (by unfold maxLen; omega) (by omega) hB.size (Nat.le_refl _) hB ?_; intro v' w' hown' hb' _)
            go_roundw
            case rel => exact ⟨n + 1, os ++ [(n : Int)], v', hlt, by go_num, rfl, hb', by simp; omega, by rw [List.length_append]; exact hown', Lib.hid (by rw [HN2.out, ← HO.out])⟩
            case measure => simp [intOf]; omega
          | false =>
            have HN2 := Lib.hid (HN.out.trans (by rw [if_neg (by rw [hfo]; simp)]))
            go_wp2_with fail
            go_roundw
            case rel => exact ⟨n + 1, os, vo, hlt, by go_num, rfl, hB, by omega, hown, Lib.hid (by rw [HN2.out, List.append_nil]; exact HO.out)⟩
            case measure => simp [intOf]; omega
    · obtain rfl : n = 512 := by omega
      obtain ⟨A9, c9, rfl, hS9⟩ := own_slice (by decide) hown
      go_wp2_with fail
      go_ret
      exact ⟨A9, c9, by rw [← HO.out]; rfl, by rw [← HO.out]; exact hS9, after_ hB0 hB⟩
end Go.Proofs.YtihepapjopcagaaGreatDoor
end
