/- Layer 15: Hit. -/
import Derived.Test.YtohkbblfcjmmnaaGreatDoorLoses
namespace Go.Proofs.YtohkbblfcjmmnaaGreatDoor
open Go Go.RowKit
set_option maxRecDepth 100000

set_option maxHeartbeats 8000000 in
theorem tAt_no (W H : Int) (GA PA : Option Addr) (gc pc : Nat) (G P : List Int) (i : Int) (w : World) (hg : Sl 1 icell w w.heap.size GA G) (hp : Sl 1 icell w w.heap.size PA P) (htv : M.tvalid W H G P = true) (hi : M.isIn i 0 (W * H - 1) = false) :
    Calls Tryz.prog 32 #[tv W H GA PA G.length gc P.length pc, .int .i64 i] w fun e w' => e = .returned (.tuple #[cv 0 0, .int .i64 2]) ∧ Below w.heap.size w w' := by
  obtain ⟨V, HW, x0, x1, hB, hs⟩ := boxes2 w #[.int .i64 W, .int .i64 H, .slice GA G.length gc, .slice PA P.length pc] 24 #[.int .i64 0, .int .i64 0] 60
  obtain ⟨r1, r2, r3, r4, -⟩ := M.tvalid_iff.1 htv
  obtain ⟨wh1, wh2⟩ := M.wh_le r1 r2
  obtain ⟨n, hn⟩ : ∃ n : Nat, W * H = n := ⟨(W * H).toNat, by omega⟩
  have hmul : W * H = (n : Int) := hn
  have HTV := Lib.hid htv
  rw [hmul] at hi
  clear htv
  obtain ⟨c0, c1, c2, c3⟩ := x0.c4
  have hV := HW.out
  go_enter Tryz.func32, Tryz.ntmps32
  go_wp2_with fail
  clear hV c0 c1 c2 c3
  refine (tvalid_any W H GA PA gc pc G P V ((hg.below hB).more hB.size) ((hp.below hB).more hB.size) (by omega) (by omega)).mono ?_
  rintro e w1 ⟨rfl, hb1⟩
  rw [HTV.out]
  have B1 := after_ hB hb1
  obtain ⟨c0, c1, c2, c3⟩ := (x0.below hb1).c4
  go_wp2_with fail
  refine (within_any i 0 (n - 1) w1).mono ?_
  rintro e w2 ⟨rfl, rfl⟩
  rw [hi]
  have z := x1.below hb1
  obtain ⟨d0, d1⟩ := z.c2
  have f0 := z.frozen 0
  have f1 := z.frozen 1
  obtain ⟨z0, z1⟩ := ((z.set 0 (.int .i64 0)).set 1 (.int .i64 0)).c2
  go_wp2_with fail
  refine bodyPost_ret (v := .tuple #[cv 0 0, .int .i64 2]) ?_ rfl ⟨rfl, ?_⟩
  · simp [results, Tryz.results32, go_sem, z0, z1]
  · exact (B1.setCell (p := ⟨w.heap.size + 1, 0, none⟩) (by dsimp only; omega) _).setCell (p := ⟨w.heap.size + 1, 1, none⟩) (by dsimp only; omega) _

def M.hitR (W H : Int) (G P : List Int) (a b : St) (o i : Int) : Bool × Int := if (M.okOff o && M.okS W H G P b && M.isIn i 0 (W * H - 1) && M.okS W H G P a) = true then (M.hit W G a b (M.ratio o) i.toNat, 0) else (false, 2)
theorem ret_bi2 {a : Bool} {z : Int} {r : Bool × Int} (h : r = (a, z)) : Ending.returned (.tuple #[.bool a, .int .i64 z]) = .returned (.tuple #[.bool r.1, .int .i64 r.2]) := by rw [h]

set_option maxHeartbeats 16000000 in
theorem ihit_any (W H : Int) (GA PA : Option Addr) (gc pc : Nat) (G P : List Int) (a b : St) (A B : Option Addr) (c d : Nat) (o i : Int) (w : World) (ht : Tab w) (hg : Sl 1 icell w w.heap.size GA G) (hp : Sl 1 icell w w.heap.size PA P) (hS : Sl 1 icell w w.heap.size A a.pat) (hT : Sl 1 icell w w.heap.size B b.pat)
    (hgl : G.length ≤ 9223372036854775806) (hpl' : P.length ≤ 9223372036854775806) (hpa : a.pat.length ≤ 1000) (hpb : b.pat.length ≤ 1000) :
    Calls Tryz.prog 11 #[tv W H GA PA G.length gc P.length pc, stv a A c, stv b B d, .int .i64 o, .int .i64 i] w fun e w' => e = .returned (.tuple #[.bool (M.hitR W H G P a b o i).1, .int .i64 (M.hitR W H G P a b o i).2]) ∧ Below w.heap.size w w' := by
  obtain ⟨V, HW, x0, x1, x2, hB, -⟩ := boxes3 w #[.int .i64 W, .int .i64 H, .slice GA G.length gc, .slice PA P.length pc] 24 (stc a A c) 28 (stc b B d) 28
  obtain ⟨r, hr⟩ : ∃ r, M.hitR W H G P a b o i = r := ⟨_, rfl⟩
  have HNO : Hid ((M.okOff o && M.okS W H G P b && M.isIn i 0 (W * H - 1) && M.okS W H G P a) = false → r = (false, 2)) := Lib.hid (fun h => by rw [← hr]; unfold M.hitR; rw [h]; rfl)
  have HYES : Hid ((M.okOff o && M.okS W H G P b && M.isIn i 0 (W * H - 1) && M.okS W H G P a) = true → r = (M.hit W G a b (M.ratio o) i.toNat, 0)) := Lib.hid (fun h => by rw [← hr]; unfold M.hitR; rw [h]; rfl)
  rw [hr]
  clear hr
  cases hoff : M.okOff o with
  | false =>
    have HF := Lib.hid (HNO.out (by rw [hoff]; rfl))
    go_enter Tryz.func11, Tryz.ntmps11
    go_wp2_with fail
    rw [HW.out]
    refine (ratio_no o V hoff).mono ?_
    rintro e w1 ⟨rfl, rfl⟩
    go_wp2_with fail
    go_ret2
    exact ⟨ret_bi2 HF.out, hB⟩
  | true =>
    obtain ⟨c0, c1, c2, c3⟩ := x0.c4
    obtain ⟨b0, b1, b2, b3, b4, b5, b6, b7⟩ := x1.c8
    obtain ⟨d0, d1, d2, d3, d4, d5, d6, d7⟩ := x2.c8
    have hV := HW.out
    obtain ⟨ro, HRO⟩ : ∃ ro, Hid (M.ratio o = ro) := ⟨_, Lib.hid rfl⟩
    have kR : Calls Tryz.prog 10 #[.int .i64 o] V fun e w' => e = .returned (.tuple #[.int .i64 ro, .int .i64 0]) ∧ V = w' := by rw [← HRO.out]; exact ratio_ok o V hoff
    have kC := icheck_any W H GA PA gc pc G P b B d V ((hg.below hB).more hB.size) ((hp.below hB).more hB.size) ((hT.below hB).more hB.size) hgl hpl' (by omega)
    cases hob : M.okS W H G P b with
    | false =>
      rw [hob] at kC
      have HF := Lib.hid (HNO.out (by rw [hoff, hob]; rfl))
      simp only [Bool.false_eq_true, if_false] at kC
      clear hoff hob
      go_enter Tryz.func11, Tryz.ntmps11
      go_wp2_with fail
      refine kR.mono ?_
      rintro e w1 ⟨rfl, rfl⟩
      clear hV
      go_wp2_with fail
      refine kC.mono ?_
      rintro e w1 ⟨rfl, hb1⟩
      go_wp2_with fail
      go_ret2
      exact ⟨ret_bi2 HF.out, after_ hB hb1⟩
    | true =>
      rw [hob] at kC
      simp only [if_true] at kC
      have HOB := Lib.hid hob
      have HOFF := Lib.hid hoff
      obtain ⟨-, htv, -, -⟩ := M.okS_iff.1 hob
      obtain ⟨r1, r2, -⟩ := M.tvalid_iff.1 htv
      obtain ⟨wh1, wh2⟩ := M.wh_le r1 r2
      have HTV := Lib.hid htv
      clear htv hoff hob
      go_enter Tryz.func11, Tryz.ntmps11
      go_wp2_with fail
      refine kR.mono ?_
      rintro e w1 ⟨rfl, rfl⟩
      clear hV
      go_wp2_with fail
      refine kC.mono ?_
      rintro e w1 ⟨rfl, hb1⟩
      have B1 := after_ hB hb1
      have y0 := x0.below hb1
      have y1 := x1.below hb1
      have y2 := x2.below hb1
      clear c0 c1 c2 c3 b0 b1 b2 b3 b4 b5 b6 b7 d0 d1 d2 d3 d4 d5 d6 d7
      obtain ⟨c0, c1, c2, c3⟩ := y0.c4
      cases hin : M.isIn i 0 (W * H - 1) with
      | false =>
        have HF := Lib.hid (HNO.out (by rw [HOFF.out, HOB.out, hin]; rfl))
        go_wp2_with fail
        refine (tAt_no W H GA PA gc pc G P i w1 ((hg.below B1).more B1.size) ((hp.below B1).more B1.size) HTV.out hin).mono ?_
        rintro e w2 ⟨rfl, hb2⟩
        obtain ⟨X, HX, u0, hbX, -⟩ := boxes1 w2 #[.int .i64 0, .int .i64 0] 60
        clear hin
        go_wp2_with fail
        go_ret2
        exact ⟨ret_bi2 HF.out, by rw [HX.out]; exact after_ (after_ B1 hb2) hbX⟩
      | true =>
        have hii := M.isIn_iff.1 hin
        obtain ⟨n, rfl⟩ : ∃ n : Nat, i = n := ⟨i.toNat, by omega⟩
        have HIN := Lib.hid hin
        clear hin
        obtain ⟨hcx, hcy⟩ := M.cell_in (W := W) (H := H) (i := n) (by omega) (by omega)
        go_wp2_with fail
        clear c0 c1 c2 c3
        refine (tAt_ok W H GA PA gc pc G P n w1 ((hg.below B1).more B1.size) ((hp.below B1).more B1.size) HTV.out (by omega)).mono ?_
        rintro e w2 ⟨rfl, hb2⟩
        have B2 := after_ B1 hb2
        obtain ⟨X, HX, u0, hbX, -⟩ := boxes1 w2 #[.int .i64 (M.cx W n), .int .i64 (M.cy W n)] 60
        have BX := after_ B2 hbX
        have z0 := (y0.below hb2).below hbX
        have z1 := (y1.below hb2).below hbX
        have z2 := (y2.below hb2).below hbX
        obtain ⟨c0, c1, c2, c3⟩ := z0.c4
        obtain ⟨b0, b1, b2, b3, b4, b5, b6, b7⟩ := z1.c8
        obtain ⟨d0, d1⟩ := u0.c2
        have hX := HX.out
        cases hoa : M.okS W H G P a with
        | false =>
          have HF := Lib.hid (HNO.out (by rw [HOFF.out, HOB.out, HIN.out, hoa]; rfl))
          have hfa : M.okF W H G P a (M.cx W n) (M.cy W n) = false := by
            cases h : M.okF W H G P a (M.cx W n) (M.cy W n) with
            | false => rfl
            | true =>
              rw [M.okF_eq, Bool.and_eq_true] at h
              rw [M.okS_eq, h.1] at hoa
              cases hoa
          clear hoa
          go_wp2_with fail
          refine (covers_no W H GA PA gc pc G P a A c (M.cx W n) (M.cy W n) X ((hg.below BX).more BX.size) ((hp.below BX).more BX.size) ((hS.below BX).more BX.size) hgl hpl' (by omega) hfa).mono ?_
          rintro e w3 ⟨rfl, hb3⟩
          go_wp2_with fail
          go_ret2
          exact ⟨ret_bi2 HF.out, after_ BX hb3⟩
        | true =>
          have HF := HYES.out (by rw [HOFF.out, HOB.out, HIN.out, hoa]; rfl)
          rw [Int.toNat_natCast, HRO.out] at HF
          unfold M.hit at HF
          have HFF := Lib.hid HF
          have hfa := M.okS_F hoa hcx.1 hcx.2 hcy.1 hcy.2
          have hfb := M.okS_F HOB.out hcx.1 hcx.2 hcy.1 hcy.2
          have HFA := Lib.hid hfa
          have HFB := Lib.hid hfb
          clear hoa hfa hfb HF
          go_wp2_with fail
          clear hX c0 c1 c2 c3 b0 b1 b2 b3 b4 b5 b6 b7 d0 d1
          refine (covers_ok W H GA PA gc pc G P a A c (M.cx W n) (M.cy W n) X (ht.kept BX) ((hg.below BX).more BX.size) ((hp.below BX).more BX.size) ((hS.below BX).more BX.size) HFA.out).mono ?_
          rintro e w3 ⟨rfl, hb3⟩
          have B3 := after_ BX hb3
          cases hcv : M.cov W G a (M.cx W n) (M.cy W n) with
          | false =>
            have HFN : Hid (r = (false, 0)) := Lib.hid (by rw [HFF.out, hcv]; rfl)
            clear hcv
            go_wp2_with fail
            go_ret2
            exact ⟨ret_bi2 HFN.out, B3⟩
          | true =>
            have HFN : Hid (r = (M.dist W G a ro (M.cx W n) (M.cy W n) [b], 0)) := Lib.hid (by rw [HFF.out, hcv]; rfl)
            clear hcv
            obtain ⟨U, HU, v0, hBU, -⟩ := boxes1 w3 (stc b B d) 28
            have BU := after_ B3 hBU
            have hL : Sl 8 secell U U.heap.size (some ⟨w3.heap.size, 0, none⟩) [⟨b, B, d⟩] := Sl.of_box v0 rfl
            obtain ⟨c0, c1, c2, c3⟩ := (z0.below hb3).c4
            obtain ⟨b0, b1, b2, b3, b4, b5, b6, b7⟩ := (z1.below hb3).c8
            obtain ⟨e0, e1, e2, e3, e4, e5, e6, e7⟩ := (z2.below hb3).c8
            obtain ⟨d0, d1⟩ := (u0.below hb3).c2
            have hU := HU.out
            have kD := disturbed_ok W H GA PA gc pc G P a A c ro (M.cx W n) (M.cy W n) (some ⟨w3.heap.size, 0, none⟩) 1 [⟨b, B, d⟩] U (ht.kept BU) ((hg.below BU).more BU.size) ((hp.below BU).more BU.size) ((hS.below BU).more BU.size) hL (pats1 ((hT.below BU).more BU.size)) (by simp) HFA.out (fun e he => by
              obtain rfl : e = ⟨b, B, d⟩ := by simpa using he
              exact HFB.out)
            replace kD : Calls Tryz.prog 34 #[tv W H GA PA G.length gc P.length pc, stv a A c, .int .i64 ro, cv (M.cx W n) (M.cy W n), .slice (some ⟨w3.heap.size, 0, none⟩) 1 1] U fun e w' => e = .returned (.tuple #[.bool (M.dist W G a ro (M.cx W n) (M.cy W n) [b]), .int .i64 0]) ∧ Below U.heap.size U w' := kD
            go_wp2_with fail
            clear hU
            refine kD.mono ?_
            rintro e w4 ⟨rfl, hb4⟩
            go_wp2_with fail
            go_ret2
            exact ⟨ret_bi2 HFN.out, after_ BU hb4⟩
end Go.Proofs.YtohkbblfcjmmnaaGreatDoor
