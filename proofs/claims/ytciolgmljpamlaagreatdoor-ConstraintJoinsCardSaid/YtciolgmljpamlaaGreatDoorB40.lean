/- A bundle of texts: Rf10, LwJo, LwVa, LwLi. -/
import Derived.Test.YtciolgmljpamlaaGreatDoorB37
import Derived.Test.YtciolgmljpamlaaGreatDoorB38
import Derived.Test.YtciolgmljpamlaaGreatDoorB39
import Derived.Test.YtciolgmljpamlaaGreatDoorB36
import Derived.Test.YtciolgmljpamlaaGreatDoorB31
import Derived.Test.YtciolgmljpamlaaGreatDoorB30
import Derived.Test.YtciolgmljpamlaaGreatDoorB08
import Derived.Test.YtciolgmljpamlaaGreatDoorB27
section
namespace Go.Proofs.YtciolgmljpamlaaGreatDoor
open Go Go.RowKit
set_option maxRecDepth 100000
set_option maxHeartbeats 64000000 in
theorem rjoin16_any (XA YA ZA XB YB ZB : Option Addr) (xc yc zc xd yd zd : Nat) (a1 a2 : List P5) (a3 : List P4) (b1 b2 : List P5) (b3 : List P4) (w : World) (ha : RW w XA YA ZA a1 a2 a3) (hb : RW w XB YB ZB b1 b2 b3)
    (hla : a1.length ≤ 9223372036854775807 ∧ a2.length ≤ 9223372036854775807 ∧ a3.length ≤ 9223372036854775807) (hlb : b1.length ≤ 9223372036854775807 ∧ b2.length ≤ 9223372036854775807 ∧ b3.length ≤ 9223372036854775807) :
    Calls Tryz.prog 29 #[ruv XA a1.length xc YA a2.length yc ZA a3.length zc, ruv XB b1.length xd YB b2.length yd ZB b3.length zd] w (RetR w (M.joinR a1 a2 a3 b1 b2 b3).1 (M.joinR a1 a2 a3 b1 b2 b3).2) := by
  obtain ⟨V, HW, xa, xb, xr, hB, -⟩ := boxes3 w #[.slice XA a1.length xc, .slice YA a2.length yc, .slice ZA a3.length zc] 30 #[.slice XB b1.length xd, .slice YB b2.length yd, .slice ZB b3.length zd] 30 #[.slice none 0 0, .slice none 0 0, .slice none 0 0] 30
  have ra := ha.next hB
  have rb := hb.next hB
  obtain ⟨p0, p1, p2⟩ := xa.c3
  have kA := valid16_any XA YA ZA xc yc zc a1 a2 a3 V ra hla
  have hV := HW.out
  go_enter Tryz.func29, Tryz.ntmps29
  go_wp2_with fail
  clear hV p0 p1 p2
  refine kA.mono ?_
  rintro e w1 ⟨rfl, hb1⟩
  clear kA
  replace xa := xa.below hb1
  replace xb := xb.below hb1
  replace xr := xr.below hb1
  replace ra := ra.next hb1
  replace rb := rb.next hb1
  have B1 := after_ hB hb1
  cases hva : M.rvalid a1 a2 a3 with
  | false =>
    have HF : Hid (M.joinR a1 a2 a3 b1 b2 b3 = (([], [], []), 2)) := Lib.hid (by unfold M.joinR; rw [if_neg]; rintro ⟨h, _⟩; rw [hva] at h; cases h)
    obtain ⟨r0, r1, r2⟩ := xr.c3
    have f0 := xr.frozen 0
    have f1 := xr.frozen 1
    have f2 := xr.frozen 2
    go_wp2_with fail
    obtain ⟨z0, z1, z2⟩ := (xr.set3 (u := .slice none 0 0) (v := .slice none 0 0) (t := .slice none 0 0)).c3
    refine bodyPost_ret (v := .tuple #[ruv none 0 0 none 0 0 none 0 0, .int .i64 2]) ?_ rfl (RetR.eq (r := (([], [], []), 2)) (RetR.none (below_set3 B1 (by omega))) HF.out)
    simp [results, Tryz.results29, go_sem, z0, z1, z2]
  | true =>
    obtain ⟨p0, p1, p2⟩ := xb.c3
    have kB := valid16_any XB YB ZB xd yd zd b1 b2 b3 w1 rb hlb
    go_wp2_with fail
    clear p0 p1 p2
    refine kB.mono ?_
    rintro e w2 ⟨rfl, hb2⟩
    clear kB
    replace xa := xa.below hb2
    replace xb := xb.below hb2
    replace xr := xr.below hb2
    replace ra := ra.next hb2
    replace rb := rb.next hb2
    replace B1 := after_ B1 hb2
    clear hb1 hb2 hB
    cases hvb : M.rvalid b1 b2 b3 with
    | false =>
      have HF : Hid (M.joinR a1 a2 a3 b1 b2 b3 = (([], [], []), 2)) := Lib.hid (by unfold M.joinR; rw [if_neg]; rintro ⟨_, h⟩; rw [hvb] at h; cases h)
      obtain ⟨r0, r1, r2⟩ := xr.c3
      have f0 := xr.frozen 0
      have f1 := xr.frozen 1
      have f2 := xr.frozen 2
      go_wp2_with fail
      obtain ⟨z0, z1, z2⟩ := (xr.set3 (u := .slice none 0 0) (v := .slice none 0 0) (t := .slice none 0 0)).c3
      refine bodyPost_ret (v := .tuple #[ruv none 0 0 none 0 0 none 0 0, .int .i64 2]) ?_ rfl (RetR.eq (r := (([], [], []), 2)) (RetR.none (below_set3 B1 (by omega))) HF.out)
      simp [results, Tryz.results29, go_sem, z0, z1, z2]
    | true =>
      have HRV := Lib.hid (M.mrg_rvalid hva hvb)
      have hrv := M.rvalid_and.1 hva
      have hrw := M.rvalid_and.1 hvb
      have n1 := (M.of_vl M.cmp5_ord hrv.1).1
      have n2 := (M.of_vl M.cmp5_ord hrv.2.1).1
      have n3 := (M.of_vl M.cmp4_ord hrv.2.2).1
      have n4 := (M.of_vl M.cmp5_ord hrw.1).1
      have n5 := (M.of_vl M.cmp5_ord hrw.2.1).1
      have n6 := (M.of_vl M.cmp4_ord hrw.2.2).1
      have HE : Hid (M.joinR a1 a2 a3 b1 b2 b3 = if 4096 < (M.mrg M.cmp5 a1 b1).length ∨ 1024 < (M.mrg M.cmp5 a2 b2).length ∨ 1024 < (M.mrg M.cmp4 a3 b3).length then (([], [], []), 7) else ((M.mrg M.cmp5 a1 b1, M.mrg M.cmp5 a2 b2, M.mrg M.cmp4 a3 b3), 0)) := Lib.hid (by unfold M.joinR; rw [if_pos ⟨hva, hvb⟩])
      clear hrv hrw hva hvb
      have lm1 := M.mrg_len (cf := M.cmp5) a1 b1
      have lm2 := M.mrg_len (cf := M.cmp5) a2 b2
      have lm3 := M.mrg_len (cf := M.cmp4) a3 b3
      have HM1 : Hid (M.mrg M.cmp5 (a1.drop 0) (b1.drop 0) = M.mrg M.cmp5 a1 b1) := Lib.hid rfl
      have HM2 : Hid (M.mrg M.cmp5 (a2.drop 0) (b2.drop 0) = M.mrg M.cmp5 a2 b2) := Lib.hid rfl
      have HM3 : Hid (M.mrg M.cmp4 (a3.drop 0) (b3.drop 0) = M.mrg M.cmp4 a3 b3) := Lib.hid rfl
      obtain ⟨m1, hm1⟩ : ∃ m, M.mrg M.cmp5 a1 b1 = m := ⟨_, rfl⟩
      obtain ⟨m2, hm2⟩ : ∃ m, M.mrg M.cmp5 a2 b2 = m := ⟨_, rfl⟩
      obtain ⟨m3, hm3⟩ : ∃ m, M.mrg M.cmp4 a3 b3 = m := ⟨_, rfl⟩
      rw [hm1, hm2, hm3] at HRV HE
      rw [hm1] at HM1 lm1
      rw [hm2] at HM2 lm2
      rw [hm3] at HM3 lm3
      clear hm1 hm2 hm3
      obtain ⟨U, HU, bx, hbU, -⟩ := boxes1 w2 #[.slice none 0 0, .slice none 0 0, .slice none 0 0] 30
      have hBr := hbU
      clear hbU
      have hs2 : w2.heap.size + 1 ≤ U.heap.size := bx.lt
      have rc : RC U (w2.heap.size + 1) w2.heap.size [] [] [] (.slice none 0 0) (.slice none 0 0) (.slice none 0 0) := ⟨bx, own_nil _ _ _ _ _, own_nil _ _ _ _ _, own_nil _ _ _ _ _⟩
      clear bx
      have hU := HU.out
      go_wp2_with fail
      clear hU
      go_loopw [7, 8, 42, 82] (fun si sk _ _ wr => ∃ (i k : Nat) (os : List P5) (v1 v2 v3 : Value), i ≤ a1.length ∧ k ≤ b1.length ∧ si = .int .i64 i ∧ sk = .int .i64 k ∧ Below w2.heap.size w2 wr ∧ w2.heap.size + 1 ≤ wr.heap.size ∧ RC wr (w2.heap.size + 1) w2.heap.size os [] [] v1 v2 v3 ∧ os.length ≤ i + k ∧ Hid (os ++ M.mrg M.cmp5 (a1.drop i) (b1.drop k) = m1)) (fun si sk _ _ _ => a1.length + b1.length - ((intOf si).toNat + (intOf sk).toNat))
      case atStart => exact ⟨0, 0, [], _, _, _, Nat.zero_le _, Nat.zero_le _, rfl, rfl, hBr, hs2, rc, Nat.zero_le _, Lib.hid (by rw [List.nil_append]; exact HM1.out)⟩
      case round =>
        clear rc hBr hs2
        obtain ⟨i, k, os, v1, v2, v3, hi, hk, rfl, rfl, hBr, hs2, rc, hol, HM⟩ := hrel
        obtain ⟨p0, p1, p2⟩ := (xa.below hBr).c3
        obtain ⟨q0, q1, q2⟩ := (xb.below hBr).c3
        by_cases hx : i < a1.length ∨ k < b1.length
        case pos =>
          by_cases hli : i < a1.length
          case pos =>
            have qi : decide ((i : Int) < (a1.length : Int)) = true := decide_eq_true (by omega)
            have qi' : decide (i < a1.length) = true := decide_eq_true hli
            go_wp2_with fail
            clear qi qi' hli p0 p1 p2 q0 q1 q2
            refine j16_a0 XA YA ZA XB YB ZB xc yc zc xd yd zd a1 a2 a3 b1 b2 b3 wr w.heap.size (w.heap.size + 1) w2.heap.size i k (xa.below hBr) (xb.below hBr) ((ra.p.below hBr).more (Nat.le_trans (Nat.le_succ _) hs2)) ((rb.p.below hBr).more (Nat.le_trans (Nat.le_succ _) hs2)) hi hk (by kernel_rfl) ?_
            rintro z43 z44 z45 z46 z47 z48 z49 z50 z51 z52 z53 z54 z55 z56 z57 z58 z59 z60 z61 z62 z63 z64 z65 z66 z67 z68 w5 ta hta hb5
            replace hBr := hBr.trans (hb5.mono (Nat.le_trans (Nat.le_succ _) hs2))
            replace hs2 := Nat.le_trans hs2 hb5.size
            replace rc := rc.below hb5
            clear hb5
            cases ta
            case true =>
              have hkl : k < b1.length := by
                rcases Nat.lt_or_ge k b1.length with h | h
                · exact h
                · have hil : i < a1.length := by omega
                  rw [M.takeB_no hil (by omega)] at hta; cases hta
              have HN := Lib.hid (M.step_b (cf := M.cmp5) (f := M.ls5) M.ls5_gt hkl hta.symm HM.out)
              clear hta HM
              go_wp2_with fail
              refine j16_b0 XA YA ZA XB YB ZB xc yc zc xd yd zd a1 a2 a3 b1 b2 b3 w5 w.heap.size (w.heap.size + 1) w2.heap.size i k (xa.below hBr) (xb.below hBr) w2 v1 v2 v3 os [] [] rc hBr hs2 ((rb.p.below hBr).more (Nat.le_trans (Nat.le_succ _) hs2)) hkl (by omega) (by omega) (by kernel_rfl) ?_
              rintro z70 z71 z72 z73 z74 z75 z76 z77 z78 z79 z80 z81 w6 z8 v' rfl rc6 hB6 hs6
              go_wp2_with fail
              go_roundw
              case rel => exact ⟨i, k + 1, os ++ [b1[k]], _, _, _, hi, hkl, rfl, rfl, hB6, hs6, rc6, by rw [List.length_append]; simp; omega, HN⟩
              case measure => simp [intOf]; omega
            case false =>
              have hil : i < a1.length := M.takeB_lt hta.symm
              go_wp2_with fail
              refine j16_e0 XA YA ZA XB YB ZB xc yc zc xd yd zd a1 a2 a3 b1 b2 b3 w5 w.heap.size (w.heap.size + 1) w2.heap.size i k (xa.below hBr) (xb.below hBr) ((ra.p.below hBr).more (Nat.le_trans (Nat.le_succ _) hs2)) ((rb.p.below hBr).more (Nat.le_trans (Nat.le_succ _) hs2)) hil (by kernel_rfl) ?_
              rintro z83 z84 z85 z86 z87 z88 z89 z90 z91 z92 z93 z94 z95 z96 z97 z98 z99 w6 te hte hb6
              replace hBr := hBr.trans (hb6.mono (Nat.le_trans (Nat.le_succ _) hs2))
              replace hs2 := Nat.le_trans hs2 hb6.size
              replace rc := rc.below hb6
              clear hb6
              cases te
              case true =>
                have hkl : k < b1.length := M.takeE_lt hte.symm
                have HN := Lib.hid (M.step_e (cf := M.cmp5) (fun x => M.cmp5_zero.2 rfl) hil hkl hte.symm HM.out)
                clear hta hte HM
                go_wp2_with fail
                refine j16_ab0 XA YA ZA XB YB ZB xc yc zc xd yd zd a1 a2 a3 b1 b2 b3 w6 w.heap.size (w.heap.size + 1) w2.heap.size i k (xa.below hBr) (xb.below hBr) w2 v1 v2 v3 os [] [] rc hBr hs2 ((ra.p.below hBr).more (Nat.le_trans (Nat.le_succ _) hs2)) hil (by omega) (by omega) (by omega) (by kernel_rfl) ?_
                rintro z101 z102 z103 z104 z105 z106 z107 z108 z109 z110 z111 z112 z113 z114 w7 z7 z8 v' rfl rfl rc6 hB6 hs6
                go_wp2_with fail
                go_roundw
                case rel => exact ⟨i + 1, k + 1, os ++ [a1[i]], _, _, _, hil, hkl, rfl, rfl, hB6, hs6, rc6, by rw [List.length_append]; simp; omega, HN⟩
                case measure => simp [intOf]; omega
              case false =>
                have HN := Lib.hid (M.step_d (cf := M.cmp5) (f := M.ls5) M.ls5_lt hil hta.symm hte.symm HM.out)
                clear hta hte HM
                go_wp2_with fail
                refine j16_d0 XA YA ZA XB YB ZB xc yc zc xd yd zd a1 a2 a3 b1 b2 b3 w6 w.heap.size (w.heap.size + 1) w2.heap.size i k (xa.below hBr) (xb.below hBr) w2 v1 v2 v3 os [] [] rc hBr hs2 ((ra.p.below hBr).more (Nat.le_trans (Nat.le_succ _) hs2)) hil (by omega) (by omega) (by kernel_rfl) ?_
                rintro z30 z31 z32 z33 z34 z35 z36 z37 z38 z39 z40 z41 w7 z7 v' rfl rc6 hB6 hs6
                go_wp2_with fail
                go_roundw
                case rel => exact ⟨i + 1, k, os ++ [a1[i]], _, _, _, hil, hk, rfl, rfl, hB6, hs6, rc6, by rw [List.length_append]; simp; omega, HN⟩
                case measure => simp [intOf]; omega
          case neg =>
            have qi : decide ((i : Int) < (a1.length : Int)) = false := decide_eq_false (by omega)
            have qi' : decide (i < a1.length) = false := decide_eq_false hli
            have qk : decide ((k : Int) < (b1.length : Int)) = true := decide_eq_true (by omega)
            have qk' : decide (k < b1.length) = true := decide_eq_true (by omega)
            go_wp2_with fail
            clear qi qi' qk qk' hli p0 p1 p2 q0 q1 q2
            refine j16_a0 XA YA ZA XB YB ZB xc yc zc xd yd zd a1 a2 a3 b1 b2 b3 wr w.heap.size (w.heap.size + 1) w2.heap.size i k (xa.below hBr) (xb.below hBr) ((ra.p.below hBr).more (Nat.le_trans (Nat.le_succ _) hs2)) ((rb.p.below hBr).more (Nat.le_trans (Nat.le_succ _) hs2)) hi hk (by kernel_rfl) ?_
            rintro z43 z44 z45 z46 z47 z48 z49 z50 z51 z52 z53 z54 z55 z56 z57 z58 z59 z60 z61 z62 z63 z64 z65 z66 z67 z68 w5 ta hta hb5
            replace hBr := hBr.trans (hb5.mono (Nat.le_trans (Nat.le_succ _) hs2))
            replace hs2 := Nat.le_trans hs2 hb5.size
            replace rc := rc.below hb5
            clear hb5
            cases ta
            case true =>
              have hkl : k < b1.length := by
                rcases Nat.lt_or_ge k b1.length with h | h
                · exact h
                · have hil : i < a1.length := by omega
                  rw [M.takeB_no hil (by omega)] at hta; cases hta
              have HN := Lib.hid (M.step_b (cf := M.cmp5) (f := M.ls5) M.ls5_gt hkl hta.symm HM.out)
              clear hta HM
              go_wp2_with fail
              refine j16_b0 XA YA ZA XB YB ZB xc yc zc xd yd zd a1 a2 a3 b1 b2 b3 w5 w.heap.size (w.heap.size + 1) w2.heap.size i k (xa.below hBr) (xb.below hBr) w2 v1 v2 v3 os [] [] rc hBr hs2 ((rb.p.below hBr).more (Nat.le_trans (Nat.le_succ _) hs2)) hkl (by omega) (by omega) (by kernel_rfl) ?_
              rintro z70 z71 z72 z73 z74 z75 z76 z77 z78 z79 z80 z81 w6 z8 v' rfl rc6 hB6 hs6
              go_wp2_with fail
              go_roundw
              case rel => exact ⟨i, k + 1, os ++ [b1[k]], _, _, _, hi, hkl, rfl, rfl, hB6, hs6, rc6, by rw [List.length_append]; simp; omega, HN⟩
              case measure => simp [intOf]; omega
            case false =>
              have hil : i < a1.length := M.takeB_lt hta.symm
              go_wp2_with fail
              refine j16_e0 XA YA ZA XB YB ZB xc yc zc xd yd zd a1 a2 a3 b1 b2 b3 w5 w.heap.size (w.heap.size + 1) w2.heap.size i k (xa.below hBr) (xb.below hBr) ((ra.p.below hBr).more (Nat.le_trans (Nat.le_succ _) hs2)) ((rb.p.below hBr).more (Nat.le_trans (Nat.le_succ _) hs2)) hil (by kernel_rfl) ?_
              rintro z83 z84 z85 z86 z87 z88 z89 z90 z91 z92 z93 z94 z95 z96 z97 z98 z99 w6 te hte hb6
              replace hBr := hBr.trans (hb6.mono (Nat.le_trans (Nat.le_succ _) hs2))
              replace hs2 := Nat.le_trans hs2 hb6.size
              replace rc := rc.below hb6
              clear hb6
              cases te
              case true =>
                have hkl : k < b1.length := M.takeE_lt hte.symm
                have HN := Lib.hid (M.step_e (cf := M.cmp5) (fun x => M.cmp5_zero.2 rfl) hil hkl hte.symm HM.out)
                clear hta hte HM
                go_wp2_with fail
                refine j16_ab0 XA YA ZA XB YB ZB xc yc zc xd yd zd a1 a2 a3 b1 b2 b3 w6 w.heap.size (w.heap.size + 1) w2.heap.size i k (xa.below hBr) (xb.below hBr) w2 v1 v2 v3 os [] [] rc hBr hs2 ((ra.p.below hBr).more (Nat.le_trans (Nat.le_succ _) hs2)) hil (by omega) (by omega) (by omega) (by kernel_rfl) ?_
                rintro z101 z102 z103 z104 z105 z106 z107 z108 z109 z110 z111 z112 z113 z114 w7 z7 z8 v' rfl rfl rc6 hB6 hs6
                go_wp2_with fail
                go_roundw
                case rel => exact ⟨i + 1, k + 1, os ++ [a1[i]], _, _, _, hil, hkl, rfl, rfl, hB6, hs6, rc6, by rw [List.length_append]; simp; omega, HN⟩
                case measure => simp [intOf]; omega
              case false =>
                have HN := Lib.hid (M.step_d (cf := M.cmp5) (f := M.ls5) M.ls5_lt hil hta.symm hte.symm HM.out)
                clear hta hte HM
                go_wp2_with fail
                refine j16_d0 XA YA ZA XB YB ZB xc yc zc xd yd zd a1 a2 a3 b1 b2 b3 w6 w.heap.size (w.heap.size + 1) w2.heap.size i k (xa.below hBr) (xb.below hBr) w2 v1 v2 v3 os [] [] rc hBr hs2 ((ra.p.below hBr).more (Nat.le_trans (Nat.le_succ _) hs2)) hil (by omega) (by omega) (by kernel_rfl) ?_
                rintro z30 z31 z32 z33 z34 z35 z36 z37 z38 z39 z40 z41 w7 z7 v' rfl rc6 hB6 hs6
                go_wp2_with fail
                go_roundw
                case rel => exact ⟨i + 1, k, os ++ [a1[i]], _, _, _, hil, hk, rfl, rfl, hB6, hs6, rc6, by rw [List.length_append]; simp; omega, HN⟩
                case measure => simp [intOf]; omega
        case neg =>
          have hli : ¬ i < a1.length := fun h => hx (.inl h)
          have hlk : ¬ k < b1.length := fun h => hx (.inr h)
          clear hx
          have qi : decide ((i : Int) < (a1.length : Int)) = false := decide_eq_false (by omega)
          have qi' : decide (i < a1.length) = false := decide_eq_false hli
          have qk : decide ((k : Int) < (b1.length : Int)) = false := decide_eq_false (by omega)
          have qk' : decide (k < b1.length) = false := decide_eq_false hlk
          have HO : Hid (os = m1) := Lib.hid (by have := HM.out; rw [List.drop_eq_nil_of_le (by omega), List.drop_eq_nil_of_le (by omega), M.mrg_nil, List.append_nil] at this; exact this)
          rw [HO.out] at rc
          go_wp2_with fail
          clear qi qi' qk qk' p0 p1 p2 q0 q1 q2 HM HO hli hlk hol hi hk
          go_loopw [7, 8, 139, 179] (fun si sk _ _ wr => ∃ (i k : Nat) (os : List P5) (v1 v2 v3 : Value), i ≤ a2.length ∧ k ≤ b2.length ∧ si = .int .i64 i ∧ sk = .int .i64 k ∧ Below w2.heap.size w2 wr ∧ w2.heap.size + 1 ≤ wr.heap.size ∧ RC wr (w2.heap.size + 1) w2.heap.size m1 os [] v1 v2 v3 ∧ os.length ≤ i + k ∧ Hid (os ++ M.mrg M.cmp5 (a2.drop i) (b2.drop k) = m2)) (fun si sk _ _ _ => a2.length + b2.length - ((intOf si).toNat + (intOf sk).toNat))
          case atStart => exact ⟨0, 0, [], _, _, _, Nat.zero_le _, Nat.zero_le _, rfl, rfl, hBr, hs2, rc, Nat.zero_le _, Lib.hid (by rw [List.nil_append]; exact HM2.out)⟩
          case round =>
            clear rc hBr hs2
            obtain ⟨i, k, os, v1, v2, v3, hi, hk, rfl, rfl, hBr, hs2, rc, hol, HM⟩ := hrel
            obtain ⟨p0, p1, p2⟩ := (xa.below hBr).c3
            obtain ⟨q0, q1, q2⟩ := (xb.below hBr).c3
            by_cases hx : i < a2.length ∨ k < b2.length
            case pos =>
              by_cases hli : i < a2.length
              case pos =>
                have qi : decide ((i : Int) < (a2.length : Int)) = true := decide_eq_true (by omega)
                have qi' : decide (i < a2.length) = true := decide_eq_true hli
                go_wp2_with fail
                clear qi qi' hli p0 p1 p2 q0 q1 q2
                refine j16_a1 XA YA ZA XB YB ZB xc yc zc xd yd zd a1 a2 a3 b1 b2 b3 wr w.heap.size (w.heap.size + 1) w2.heap.size i k (xa.below hBr) (xb.below hBr) ((ra.l.below hBr).more (Nat.le_trans (Nat.le_succ _) hs2)) ((rb.l.below hBr).more (Nat.le_trans (Nat.le_succ _) hs2)) hi hk (by kernel_rfl) ?_
                rintro z140 z141 z142 z143 z144 z145 z146 z147 z148 z149 z150 z151 z152 z153 z154 z155 z156 z157 z158 z159 z160 z161 z162 z163 z164 z165 w5 ta hta hb5
                replace hBr := hBr.trans (hb5.mono (Nat.le_trans (Nat.le_succ _) hs2))
                replace hs2 := Nat.le_trans hs2 hb5.size
                replace rc := rc.below hb5
                clear hb5
                cases ta
                case true =>
                  have hkl : k < b2.length := by
                    rcases Nat.lt_or_ge k b2.length with h | h
                    · exact h
                    · have hil : i < a2.length := by omega
                      rw [M.takeB_no hil (by omega)] at hta; cases hta
                  have HN := Lib.hid (M.step_b (cf := M.cmp5) (f := M.ls5) M.ls5_gt hkl hta.symm HM.out)
                  clear hta HM
                  go_wp2_with fail
                  refine j16_b1 XA YA ZA XB YB ZB xc yc zc xd yd zd a1 a2 a3 b1 b2 b3 w5 w.heap.size (w.heap.size + 1) w2.heap.size i k (xa.below hBr) (xb.below hBr) w2 v1 v2 v3 m1 os [] rc hBr hs2 ((rb.l.below hBr).more (Nat.le_trans (Nat.le_succ _) hs2)) hkl (by omega) (by omega) (by kernel_rfl) ?_
                  rintro z167 z168 z169 z170 z171 z172 z173 z174 z175 z176 z177 z178 w6 z8 v' rfl rc6 hB6 hs6
                  go_wp2_with fail
                  go_roundw
                  case rel => exact ⟨i, k + 1, os ++ [b2[k]], _, _, _, hi, hkl, rfl, rfl, hB6, hs6, rc6, by rw [List.length_append]; simp; omega, HN⟩
                  case measure => simp [intOf]; omega
                case false =>
                  have hil : i < a2.length := M.takeB_lt hta.symm
                  go_wp2_with fail
                  refine j16_e1 XA YA ZA XB YB ZB xc yc zc xd yd zd a1 a2 a3 b1 b2 b3 w5 w.heap.size (w.heap.size + 1) w2.heap.size i k (xa.below hBr) (xb.below hBr) ((ra.l.below hBr).more (Nat.le_trans (Nat.le_succ _) hs2)) ((rb.l.below hBr).more (Nat.le_trans (Nat.le_succ _) hs2)) hil (by kernel_rfl) ?_
                  rintro z180 z181 z182 z183 z184 z185 z186 z187 z188 z189 z190 z191 z192 z193 z194 z195 z196 w6 te hte hb6
                  replace hBr := hBr.trans (hb6.mono (Nat.le_trans (Nat.le_succ _) hs2))
                  replace hs2 := Nat.le_trans hs2 hb6.size
                  replace rc := rc.below hb6
                  clear hb6
                  cases te
                  case true =>
                    have hkl : k < b2.length := M.takeE_lt hte.symm
                    have HN := Lib.hid (M.step_e (cf := M.cmp5) (fun x => M.cmp5_zero.2 rfl) hil hkl hte.symm HM.out)
                    clear hta hte HM
                    go_wp2_with fail
                    refine j16_ab1 XA YA ZA XB YB ZB xc yc zc xd yd zd a1 a2 a3 b1 b2 b3 w6 w.heap.size (w.heap.size + 1) w2.heap.size i k (xa.below hBr) (xb.below hBr) w2 v1 v2 v3 m1 os [] rc hBr hs2 ((ra.l.below hBr).more (Nat.le_trans (Nat.le_succ _) hs2)) hil (by omega) (by omega) (by omega) (by kernel_rfl) ?_
                    rintro z198 z199 z200 z201 z202 z203 z204 z205 z206 z207 z208 z209 z210 z211 w7 z7 z8 v' rfl rfl rc6 hB6 hs6
                    go_wp2_with fail
                    go_roundw
                    case rel => exact ⟨i + 1, k + 1, os ++ [a2[i]], _, _, _, hil, hkl, rfl, rfl, hB6, hs6, rc6, by rw [List.length_append]; simp; omega, HN⟩
                    case measure => simp [intOf]; omega
                  case false =>
                    have HN := Lib.hid (M.step_d (cf := M.cmp5) (f := M.ls5) M.ls5_lt hil hta.symm hte.symm HM.out)
                    clear hta hte HM
                    go_wp2_with fail
                    refine j16_d1 XA YA ZA XB YB ZB xc yc zc xd yd zd a1 a2 a3 b1 b2 b3 w6 w.heap.size (w.heap.size + 1) w2.heap.size i k (xa.below hBr) (xb.below hBr) w2 v1 v2 v3 m1 os [] rc hBr hs2 ((ra.l.below hBr).more (Nat.le_trans (Nat.le_succ _) hs2)) hil (by omega) (by omega) (by kernel_rfl) ?_
                    rintro z127 z128 z129 z130 z131 z132 z133 z134 z135 z136 z137 z138 w7 z7 v' rfl rc6 hB6 hs6
                    go_wp2_with fail
                    go_roundw
                    case rel => exact ⟨i + 1, k, os ++ [a2[i]], _, _, _, hil, hk, rfl, rfl, hB6, hs6, rc6, by rw [List.length_append]; simp; omega, HN⟩
                    case measure => simp [intOf]; omega
              case neg =>
                have qi : decide ((i : Int) < (a2.length : Int)) = false := decide_eq_false (by omega)
                have qi' : decide (i < a2.length) = false := decide_eq_false hli
                have qk : decide ((k : Int) < (b2.length : Int)) = true := decide_eq_true (by omega)
                have qk' : decide (k < b2.length) = true := decide_eq_true (by omega)
                go_wp2_with fail
                clear qi qi' qk qk' hli p0 p1 p2 q0 q1 q2
                refine j16_a1 XA YA ZA XB YB ZB xc yc zc xd yd zd a1 a2 a3 b1 b2 b3 wr w.heap.size (w.heap.size + 1) w2.heap.size i k (xa.below hBr) (xb.below hBr) ((ra.l.below hBr).more (Nat.le_trans (Nat.le_succ _) hs2)) ((rb.l.below hBr).more (Nat.le_trans (Nat.le_succ _) hs2)) hi hk (by kernel_rfl) ?_
                rintro z140 z141 z142 z143 z144 z145 z146 z147 z148 z149 z150 z151 z152 z153 z154 z155 z156 z157 z158 z159 z160 z161 z162 z163 z164 z165 w5 ta hta hb5
                replace hBr := hBr.trans (hb5.mono (Nat.le_trans (Nat.le_succ _) hs2))
                replace hs2 := Nat.le_trans hs2 hb5.size
                replace rc := rc.below hb5
                clear hb5
                cases ta
                case true =>
                  have hkl : k < b2.length := by
                    rcases Nat.lt_or_ge k b2.length with h | h
                    · exact h
                    · have hil : i < a2.length := by omega
                      rw [M.takeB_no hil (by omega)] at hta; cases hta
                  have HN := Lib.hid (M.step_b (cf := M.cmp5) (f := M.ls5) M.ls5_gt hkl hta.symm HM.out)
                  clear hta HM
                  go_wp2_with fail
                  refine j16_b1 XA YA ZA XB YB ZB xc yc zc xd yd zd a1 a2 a3 b1 b2 b3 w5 w.heap.size (w.heap.size + 1) w2.heap.size i k (xa.below hBr) (xb.below hBr) w2 v1 v2 v3 m1 os [] rc hBr hs2 ((rb.l.below hBr).more (Nat.le_trans (Nat.le_succ _) hs2)) hkl (by omega) (by omega) (by kernel_rfl) ?_
                  rintro z167 z168 z169 z170 z171 z172 z173 z174 z175 z176 z177 z178 w6 z8 v' rfl rc6 hB6 hs6
                  go_wp2_with fail
                  go_roundw
                  case rel => exact ⟨i, k + 1, os ++ [b2[k]], _, _, _, hi, hkl, rfl, rfl, hB6, hs6, rc6, by rw [List.length_append]; simp; omega, HN⟩
                  case measure => simp [intOf]; omega
                case false =>
                  have hil : i < a2.length := M.takeB_lt hta.symm
                  go_wp2_with fail
                  refine j16_e1 XA YA ZA XB YB ZB xc yc zc xd yd zd a1 a2 a3 b1 b2 b3 w5 w.heap.size (w.heap.size + 1) w2.heap.size i k (xa.below hBr) (xb.below hBr) ((ra.l.below hBr).more (Nat.le_trans (Nat.le_succ _) hs2)) ((rb.l.below hBr).more (Nat.le_trans (Nat.le_succ _) hs2)) hil (by kernel_rfl) ?_
                  rintro z180 z181 z182 z183 z184 z185 z186 z187 z188 z189 z190 z191 z192 z193 z194 z195 z196 w6 te hte hb6
                  replace hBr := hBr.trans (hb6.mono (Nat.le_trans (Nat.le_succ _) hs2))
                  replace hs2 := Nat.le_trans hs2 hb6.size
                  replace rc := rc.below hb6
                  clear hb6
                  cases te
                  case true =>
                    have hkl : k < b2.length := M.takeE_lt hte.symm
                    have HN := Lib.hid (M.step_e (cf := M.cmp5) (fun x => M.cmp5_zero.2 rfl) hil hkl hte.symm HM.out)
                    clear hta hte HM
                    go_wp2_with fail
                    refine j16_ab1 XA YA ZA XB YB ZB xc yc zc xd yd zd a1 a2 a3 b1 b2 b3 w6 w.heap.size (w.heap.size + 1) w2.heap.size i k (xa.below hBr) (xb.below hBr) w2 v1 v2 v3 m1 os [] rc hBr hs2 ((ra.l.below hBr).more (Nat.le_trans (Nat.le_succ _) hs2)) hil (by omega) (by omega) (by omega) (by kernel_rfl) ?_
                    rintro z198 z199 z200 z201 z202 z203 z204 z205 z206 z207 z208 z209 z210 z211 w7 z7 z8 v' rfl rfl rc6 hB6 hs6
                    go_wp2_with fail
                    go_roundw
                    case rel => exact ⟨i + 1, k + 1, os ++ [a2[i]], _, _, _, hil, hkl, rfl, rfl, hB6, hs6, rc6, by rw [List.length_append]; simp; omega, HN⟩
                    case measure => simp [intOf]; omega
                  case false =>
                    have HN := Lib.hid (M.step_d (cf := M.cmp5) (f := M.ls5) M.ls5_lt hil hta.symm hte.symm HM.out)
                    clear hta hte HM
                    go_wp2_with fail
                    refine j16_d1 XA YA ZA XB YB ZB xc yc zc xd yd zd a1 a2 a3 b1 b2 b3 w6 w.heap.size (w.heap.size + 1) w2.heap.size i k (xa.below hBr) (xb.below hBr) w2 v1 v2 v3 m1 os [] rc hBr hs2 ((ra.l.below hBr).more (Nat.le_trans (Nat.le_succ _) hs2)) hil (by omega) (by omega) (by kernel_rfl) ?_
                    rintro z127 z128 z129 z130 z131 z132 z133 z134 z135 z136 z137 z138 w7 z7 v' rfl rc6 hB6 hs6
                    go_wp2_with fail
                    go_roundw
                    case rel => exact ⟨i + 1, k, os ++ [a2[i]], _, _, _, hil, hk, rfl, rfl, hB6, hs6, rc6, by rw [List.length_append]; simp; omega, HN⟩
                    case measure => simp [intOf]; omega
            case neg =>
              have hli : ¬ i < a2.length := fun h => hx (.inl h)
              have hlk : ¬ k < b2.length := fun h => hx (.inr h)
              clear hx
              have qi : decide ((i : Int) < (a2.length : Int)) = false := decide_eq_false (by omega)
              have qi' : decide (i < a2.length) = false := decide_eq_false hli
              have qk : decide ((k : Int) < (b2.length : Int)) = false := decide_eq_false (by omega)
              have qk' : decide (k < b2.length) = false := decide_eq_false hlk
              have HO : Hid (os = m2) := Lib.hid (by have := HM.out; rw [List.drop_eq_nil_of_le (by omega), List.drop_eq_nil_of_le (by omega), M.mrg_nil, List.append_nil] at this; exact this)
              rw [HO.out] at rc
              go_wp2_with fail
              clear qi qi' qk qk' p0 p1 p2 q0 q1 q2 HM HO hli hlk hol hi hk
              go_loopw [7, 8, 236, 276] (fun si sk _ _ wr => ∃ (i k : Nat) (os : List P4) (v1 v2 v3 : Value), i ≤ a3.length ∧ k ≤ b3.length ∧ si = .int .i64 i ∧ sk = .int .i64 k ∧ Below w2.heap.size w2 wr ∧ w2.heap.size + 1 ≤ wr.heap.size ∧ RC wr (w2.heap.size + 1) w2.heap.size m1 m2 os v1 v2 v3 ∧ os.length ≤ i + k ∧ Hid (os ++ M.mrg M.cmp4 (a3.drop i) (b3.drop k) = m3)) (fun si sk _ _ _ => a3.length + b3.length - ((intOf si).toNat + (intOf sk).toNat))
              case atStart => exact ⟨0, 0, [], _, _, _, Nat.zero_le _, Nat.zero_le _, rfl, rfl, hBr, hs2, rc, Nat.zero_le _, Lib.hid (by rw [List.nil_append]; exact HM3.out)⟩
              case round =>
                clear rc hBr hs2
                obtain ⟨i, k, os, v1, v2, v3, hi, hk, rfl, rfl, hBr, hs2, rc, hol, HM⟩ := hrel
                obtain ⟨p0, p1, p2⟩ := (xa.below hBr).c3
                obtain ⟨q0, q1, q2⟩ := (xb.below hBr).c3
                by_cases hx : i < a3.length ∨ k < b3.length
                case pos =>
                  by_cases hli : i < a3.length
                  case pos =>
                    have qi : decide ((i : Int) < (a3.length : Int)) = true := decide_eq_true (by omega)
                    have qi' : decide (i < a3.length) = true := decide_eq_true hli
                    go_wp2_with fail
                    clear qi qi' hli p0 p1 p2 q0 q1 q2
                    refine j16_a2 XA YA ZA XB YB ZB xc yc zc xd yd zd a1 a2 a3 b1 b2 b3 wr w.heap.size (w.heap.size + 1) w2.heap.size i k (xa.below hBr) (xb.below hBr) ((ra.c.below hBr).more (Nat.le_trans (Nat.le_succ _) hs2)) ((rb.c.below hBr).more (Nat.le_trans (Nat.le_succ _) hs2)) hi hk (by kernel_rfl) ?_
                    rintro z237 z238 z239 z240 z241 z242 z243 z244 z245 z246 z247 z248 z249 z250 z251 z252 z253 z254 z255 z256 z257 z258 z259 z260 z261 z262 w5 ta hta hb5
                    replace hBr := hBr.trans (hb5.mono (Nat.le_trans (Nat.le_succ _) hs2))
                    replace hs2 := Nat.le_trans hs2 hb5.size
                    replace rc := rc.below hb5
                    clear hb5
                    cases ta
                    case true =>
                      have hkl : k < b3.length := by
                        rcases Nat.lt_or_ge k b3.length with h | h
                        · exact h
                        · have hil : i < a3.length := by omega
                          rw [M.takeB_no hil (by omega)] at hta; cases hta
                      have HN := Lib.hid (M.step_b (cf := M.cmp4) (f := M.ls4) M.ls4_gt hkl hta.symm HM.out)
                      clear hta HM
                      go_wp2_with fail
                      refine j16_b2 XA YA ZA XB YB ZB xc yc zc xd yd zd a1 a2 a3 b1 b2 b3 w5 w.heap.size (w.heap.size + 1) w2.heap.size i k (xa.below hBr) (xb.below hBr) w2 v1 v2 v3 m1 m2 os rc hBr hs2 ((rb.c.below hBr).more (Nat.le_trans (Nat.le_succ _) hs2)) hkl (by omega) (by omega) (by kernel_rfl) ?_
                      rintro z264 z265 z266 z267 z268 z269 z270 z271 z272 z273 z274 z275 w6 z8 v' rfl rc6 hB6 hs6
                      go_wp2_with fail
                      go_roundw
                      case rel => exact ⟨i, k + 1, os ++ [b3[k]], _, _, _, hi, hkl, rfl, rfl, hB6, hs6, rc6, by rw [List.length_append]; simp; omega, HN⟩
                      case measure => simp [intOf]; omega
                    case false =>
                      have hil : i < a3.length := M.takeB_lt hta.symm
                      go_wp2_with fail
                      refine j16_e2 XA YA ZA XB YB ZB xc yc zc xd yd zd a1 a2 a3 b1 b2 b3 w5 w.heap.size (w.heap.size + 1) w2.heap.size i k (xa.below hBr) (xb.below hBr) ((ra.c.below hBr).more (Nat.le_trans (Nat.le_succ _) hs2)) ((rb.c.below hBr).more (Nat.le_trans (Nat.le_succ _) hs2)) hil (by kernel_rfl) ?_
                      rintro z277 z278 z279 z280 z281 z282 z283 z284 z285 z286 z287 z288 z289 z290 z291 z292 z293 w6 te hte hb6
                      replace hBr := hBr.trans (hb6.mono (Nat.le_trans (Nat.le_succ _) hs2))
                      replace hs2 := Nat.le_trans hs2 hb6.size
                      replace rc := rc.below hb6
                      clear hb6
                      cases te
                      case true =>
                        have hkl : k < b3.length := M.takeE_lt hte.symm
                        have HN := Lib.hid (M.step_e (cf := M.cmp4) (fun x => M.cmp4_zero.2 rfl) hil hkl hte.symm HM.out)
                        clear hta hte HM
                        go_wp2_with fail
                        refine j16_ab2 XA YA ZA XB YB ZB xc yc zc xd yd zd a1 a2 a3 b1 b2 b3 w6 w.heap.size (w.heap.size + 1) w2.heap.size i k (xa.below hBr) (xb.below hBr) w2 v1 v2 v3 m1 m2 os rc hBr hs2 ((ra.c.below hBr).more (Nat.le_trans (Nat.le_succ _) hs2)) hil (by omega) (by omega) (by omega) (by kernel_rfl) ?_
                        rintro z295 z296 z297 z298 z299 z300 z301 z302 z303 z304 z305 z306 z307 z308 w7 z7 z8 v' rfl rfl rc6 hB6 hs6
                        go_wp2_with fail
                        go_roundw
                        case rel => exact ⟨i + 1, k + 1, os ++ [a3[i]], _, _, _, hil, hkl, rfl, rfl, hB6, hs6, rc6, by rw [List.length_append]; simp; omega, HN⟩
                        case measure => simp [intOf]; omega
                      case false =>
                        have HN := Lib.hid (M.step_d (cf := M.cmp4) (f := M.ls4) M.ls4_lt hil hta.symm hte.symm HM.out)
                        clear hta hte HM
                        go_wp2_with fail
                        refine j16_d2 XA YA ZA XB YB ZB xc yc zc xd yd zd a1 a2 a3 b1 b2 b3 w6 w.heap.size (w.heap.size + 1) w2.heap.size i k (xa.below hBr) (xb.below hBr) w2 v1 v2 v3 m1 m2 os rc hBr hs2 ((ra.c.below hBr).more (Nat.le_trans (Nat.le_succ _) hs2)) hil (by omega) (by omega) (by kernel_rfl) ?_
                        rintro z224 z225 z226 z227 z228 z229 z230 z231 z232 z233 z234 z235 w7 z7 v' rfl rc6 hB6 hs6
                        go_wp2_with fail
                        go_roundw
                        case rel => exact ⟨i + 1, k, os ++ [a3[i]], _, _, _, hil, hk, rfl, rfl, hB6, hs6, rc6, by rw [List.length_append]; simp; omega, HN⟩
                        case measure => simp [intOf]; omega
                  case neg =>
                    have qi : decide ((i : Int) < (a3.length : Int)) = false := decide_eq_false (by omega)
                    have qi' : decide (i < a3.length) = false := decide_eq_false hli
                    have qk : decide ((k : Int) < (b3.length : Int)) = true := decide_eq_true (by omega)
                    have qk' : decide (k < b3.length) = true := decide_eq_true (by omega)
                    go_wp2_with fail
                    clear qi qi' qk qk' hli p0 p1 p2 q0 q1 q2
                    refine j16_a2 XA YA ZA XB YB ZB xc yc zc xd yd zd a1 a2 a3 b1 b2 b3 wr w.heap.size (w.heap.size + 1) w2.heap.size i k (xa.below hBr) (xb.below hBr) ((ra.c.below hBr).more (Nat.le_trans (Nat.le_succ _) hs2)) ((rb.c.below hBr).more (Nat.le_trans (Nat.le_succ _) hs2)) hi hk (by kernel_rfl) ?_
                    rintro z237 z238 z239 z240 z241 z242 z243 z244 z245 z246 z247 z248 z249 z250 z251 z252 z253 z254 z255 z256 z257 z258 z259 z260 z261 z262 w5 ta hta hb5
                    replace hBr := hBr.trans (hb5.mono (Nat.le_trans (Nat.le_succ _) hs2))
                    replace hs2 := Nat.le_trans hs2 hb5.size
                    replace rc := rc.below hb5
                    clear hb5
                    cases ta
                    case true =>
                      have hkl : k < b3.length := by
                        rcases Nat.lt_or_ge k b3.length with h | h
                        · exact h
                        · have hil : i < a3.length := by omega
                          rw [M.takeB_no hil (by omega)] at hta; cases hta
                      have HN := Lib.hid (M.step_b (cf := M.cmp4) (f := M.ls4) M.ls4_gt hkl hta.symm HM.out)
                      clear hta HM
                      go_wp2_with fail
                      refine j16_b2 XA YA ZA XB YB ZB xc yc zc xd yd zd a1 a2 a3 b1 b2 b3 w5 w.heap.size (w.heap.size + 1) w2.heap.size i k (xa.below hBr) (xb.below hBr) w2 v1 v2 v3 m1 m2 os rc hBr hs2 ((rb.c.below hBr).more (Nat.le_trans (Nat.le_succ _) hs2)) hkl (by omega) (by omega) (by kernel_rfl) ?_
                      rintro z264 z265 z266 z267 z268 z269 z270 z271 z272 z273 z274 z275 w6 z8 v' rfl rc6 hB6 hs6
                      go_wp2_with fail
                      go_roundw
                      case rel => exact ⟨i, k + 1, os ++ [b3[k]], _, _, _, hi, hkl, rfl, rfl, hB6, hs6, rc6, by rw [List.length_append]; simp; omega, HN⟩
                      case measure => simp [intOf]; omega
                    case false =>
                      have hil : i < a3.length := M.takeB_lt hta.symm
                      go_wp2_with fail
                      refine j16_e2 XA YA ZA XB YB ZB xc yc zc xd yd zd a1 a2 a3 b1 b2 b3 w5 w.heap.size (w.heap.size + 1) w2.heap.size i k (xa.below hBr) (xb.below hBr) ((ra.c.below hBr).more (Nat.le_trans (Nat.le_succ _) hs2)) ((rb.c.below hBr).more (Nat.le_trans (Nat.le_succ _) hs2)) hil (by kernel_rfl) ?_
                      rintro z277 z278 z279 z280 z281 z282 z283 z284 z285 z286 z287 z288 z289 z290 z291 z292 z293 w6 te hte hb6
                      replace hBr := hBr.trans (hb6.mono (Nat.le_trans (Nat.le_succ _) hs2))
                      replace hs2 := Nat.le_trans hs2 hb6.size
                      replace rc := rc.below hb6
                      clear hb6
                      cases te
                      case true =>
                        have hkl : k < b3.length := M.takeE_lt hte.symm
                        have HN := Lib.hid (M.step_e (cf := M.cmp4) (fun x => M.cmp4_zero.2 rfl) hil hkl hte.symm HM.out)
                        clear hta hte HM
                        go_wp2_with fail
                        refine j16_ab2 XA YA ZA XB YB ZB xc yc zc xd yd zd a1 a2 a3 b1 b2 b3 w6 w.heap.size (w.heap.size + 1) w2.heap.size i k (xa.below hBr) (xb.below hBr) w2 v1 v2 v3 m1 m2 os rc hBr hs2 ((ra.c.below hBr).more (Nat.le_trans (Nat.le_succ _) hs2)) hil (by omega) (by omega) (by omega) (by kernel_rfl) ?_
                        rintro z295 z296 z297 z298 z299 z300 z301 z302 z303 z304 z305 z306 z307 z308 w7 z7 z8 v' rfl rfl rc6 hB6 hs6
                        go_wp2_with fail
                        go_roundw
                        case rel => exact ⟨i + 1, k + 1, os ++ [a3[i]], _, _, _, hil, hkl, rfl, rfl, hB6, hs6, rc6, by rw [List.length_append]; simp; omega, HN⟩
                        case measure => simp [intOf]; omega
                      case false =>
                        have HN := Lib.hid (M.step_d (cf := M.cmp4) (f := M.ls4) M.ls4_lt hil hta.symm hte.symm HM.out)
                        clear hta hte HM
                        go_wp2_with fail
                        refine j16_d2 XA YA ZA XB YB ZB xc yc zc xd yd zd a1 a2 a3 b1 b2 b3 w6 w.heap.size (w.heap.size + 1) w2.heap.size i k (xa.below hBr) (xb.below hBr) w2 v1 v2 v3 m1 m2 os rc hBr hs2 ((ra.c.below hBr).more (Nat.le_trans (Nat.le_succ _) hs2)) hil (by omega) (by omega) (by kernel_rfl) ?_
                        rintro z224 z225 z226 z227 z228 z229 z230 z231 z232 z233 z234 z235 w7 z7 v' rfl rc6 hB6 hs6
                        go_wp2_with fail
                        go_roundw
                        case rel => exact ⟨i + 1, k, os ++ [a3[i]], _, _, _, hil, hk, rfl, rfl, hB6, hs6, rc6, by rw [List.length_append]; simp; omega, HN⟩
                        case measure => simp [intOf]; omega
                case neg =>
                  have hli : ¬ i < a3.length := fun h => hx (.inl h)
                  have hlk : ¬ k < b3.length := fun h => hx (.inr h)
                  clear hx
                  have qi : decide ((i : Int) < (a3.length : Int)) = false := decide_eq_false (by omega)
                  have qi' : decide (i < a3.length) = false := decide_eq_false hli
                  have qk : decide ((k : Int) < (b3.length : Int)) = false := decide_eq_false (by omega)
                  have qk' : decide (k < b3.length) = false := decide_eq_false hlk
                  have HO : Hid (os = m3) := Lib.hid (by have := HM.out; rw [List.drop_eq_nil_of_le (by omega), List.drop_eq_nil_of_le (by omega), M.mrg_nil, List.append_nil] at this; exact this)
                  rw [HO.out] at rc
                  clear HM HO hol
                  have ro : Ro3 wr (w2.heap.size + 1) v1 v2 v3 (m1, m2, m3) := ⟨rc.p, rc.l, rc.c⟩
                  have bx := rc.box
                  clear rc
                  obtain ⟨A1, d1, A2, d2, A3, d3, rfl, rfl, rfl, rw1, hcp⟩ := ro.out
                  simp only at bx hcp rw1 ro
                  have xr1 := xr.below hBr
                  have B2 := B1.trans (hBr.mono B1.size)
                  have hne : w.heap.size + 2 < w2.heap.size := xr.lt
                  have kF := valid16_any A1 A2 A3 d1 d2 d3 m1 m2 m3 wr rw1 (by omega)
                  rw [HRV.out] at kF
                  obtain ⟨y0, y1, y2⟩ := bx.c3
                  by_cases hf : 4096 < m1.length ∨ 1024 < m2.length ∨ 1024 < m3.length
                  case pos =>
                    have HF : Hid (M.joinR a1 a2 a3 b1 b2 b3 = (([], [], []), 7)) := Lib.hid (by rw [HE.out, if_pos hf])
                    rw [decide_eq_false (fun h => h hf)] at kF
                    clear hf
                    go_wp2_with fail
                    clear y0 y1 y2 qi qi' qk qk' p0 p1 p2 q0 q1 q2 hli hlk hi hk
                    refine kF.mono ?_
                    rintro e w3 ⟨rfl, hb3⟩
                    have B3 := after_ B2 hb3
                    replace xr := xr1.below hb3
                    clear xr1
                    obtain ⟨r0, r1, r2⟩ := xr.c3
                    have f0 := xr.frozen 0
                    have f1 := xr.frozen 1
                    have f2 := xr.frozen 2
                    go_wp2_with fail
                    obtain ⟨z0, z1, z2⟩ := (xr.set3 (u := .slice none 0 0) (v := .slice none 0 0) (t := .slice none 0 0)).c3
                    refine bodyPost_ret (v := .tuple #[ruv none 0 0 none 0 0 none 0 0, .int .i64 7]) ?_ rfl (RetR.eq (r := (([], [], []), 7)) (RetR.none (below_set3 B3 (by omega))) HF.out)
                    simp [results, Tryz.results29, go_sem, z0, z1, z2]
                  case neg =>
                    have HF : Hid (M.joinR a1 a2 a3 b1 b2 b3 = ((m1, m2, m3), 0)) := Lib.hid (by rw [HE.out, if_neg hf])
                    rw [decide_eq_true hf] at kF
                    clear hf
                    go_wp2_with fail
                    clear y0 y1 y2 qi qi' qk qk' p0 p1 p2 q0 q1 q2 hli hlk hi hk
                    refine kF.mono ?_
                    rintro e w3 ⟨rfl, hb3⟩
                    have B3 := after_ B2 hb3
                    replace xr1 := xr1.below hb3
                    replace bx := bx.below hb3
                    replace ro := ro.below hb3
                    obtain ⟨r0, r1, r2⟩ := xr1.c3
                    obtain ⟨y0, y1, y2⟩ := bx.c3
                    have f0 := xr1.frozen 0
                    have f1 := xr1.frozen 1
                    have f2 := xr1.frozen 2
                    go_wp2_with fail
                    obtain ⟨z0, z1, z2⟩ := (xr1.set3 (u := .slice A1 m1.length d1) (v := .slice A2 m2.length d2) (t := .slice A3 m3.length d3)).c3
                    have ro2 := ro.set3 (u := .slice A1 m1.length d1) (v := .slice A2 m2.length d2) (t := .slice A3 m3.length d3) xr1
                    obtain ⟨A1', d1', A2', d2', A3', d3', e1, e2, e3, rw2, -⟩ := ro2.out
                    cases e1; cases e2; cases e3
                    refine bodyPost_ret (v := .tuple #[ruv A1 m1.length d1 A2 m2.length d2 A3 m3.length d3, .int .i64 0]) ?_ rfl (RetR.eq (r := ((m1, m2, m3), 0)) ⟨A1, d1, A2, d2, A3, d3, rfl, rw2, hcp, below_set3 B3 (by omega), ro2.far (by omega)⟩ HF.out)
                    simp [results, Tryz.results29, go_sem, z0, z1, z2]
end Go.Proofs.YtciolgmljpamlaaGreatDoor
end

section
namespace Go.Proofs.YtciolgmljpamlaaGreatDoor
open Go Go.RowKit
set_option maxRecDepth 100000
set_option maxHeartbeats 16000000 in
theorem constraintJoins_walk (XA YA ZA XB YB ZB : Option Addr) (xc yc zc xd yd zd : Nat) (a1 a2 : List P5) (a3 : List P4) (b1 b2 : List P5) (b3 : List P4) (w : World) (ht : Tab w) (hra : RW w XA YA ZA a1 a2 a3) (hrb : RW w XB YB ZB b1 b2 b3) (hca : a1.length ≤ xc ∧ a2.length ≤ yc ∧ a3.length ≤ zc) (hcb : b1.length ≤ xd ∧ b2.length ≤ yd ∧ b3.length ≤ zd) :
  Calls Tryz.prog 7 #[ruv XA a1.length xc YA a2.length yc ZA a3.length zc, ruv XB b1.length xd YB b2.length yd ZB b3.length zd] w fun e w' => e = .returned (.bool true) ∧ Below w.heap.size w w' := by
 obtain ⟨V, HW, x0, y0, hB, -⟩ := boxes2 w #[.slice XA a1.length xc, .slice YA a2.length yc, .slice ZA a3.length zc] 30 #[.slice XB b1.length xd, .slice YB b2.length yd, .slice ZB b3.length zd] 30
 have lw : LW6 w V := ⟨ht.kept hB, hB⟩
 have ra : R6 V w.heap.size XA YA ZA xc yc zc a1 a2 a3 := ⟨x0, hra.next hB, hca⟩
 have rb : R6 V (w.heap.size + 1) XB YB ZB xd yd zd b1 b2 b3 := ⟨y0, hrb.next hB, hcb⟩
 clear x0 y0 hB hra hrb hca hcb
 have kS := small16_any XA YA ZA xc yc zc a1.length a2.length a3.length (60 : Nat) V
 obtain ⟨sm, hsm⟩ : ∃ b, (decide ((a1.length : Int) ≤ ((60 : Nat) : Int)) && decide ((a2.length : Int) ≤ ((60 : Nat) : Int)) && decide ((a3.length : Int) ≤ ((60 : Nat) : Int))) = b := ⟨_, rfl⟩
 rw [hsm] at kS
 obtain ⟨c0, c1, c2⟩ := ra.box.c3
 have hV := HW.out
 go_enter Tryz.func7, Tryz.ntmps7
 go_wp2_with fail
 clear hV c0 c1 c2
 refine kS.mono ?_
 rintro e w1 ⟨rfl, hbx⟩
 replace lw := lw.next hbx
 replace ra := ra.next hbx
 replace rb := rb.next hbx
 clear hbx kS
 have HSM := M.small6 hsm
 clear hsm
 cases sm with
 | false =>
  go_wp2_with fail
  refine lw.known.mono ?_
  rintro e x9 ⟨rfl, hb9⟩
  go_wp2_with fail
  go_ret
  exact ⟨rfl, hb9⟩
 | true =>
  obtain ⟨s1, s2, s3⟩ := HSM rfl
  clear HSM
  have kS := small16_any XB YB ZB xd yd zd b1.length b2.length b3.length (60 : Nat) w1
  obtain ⟨sm, hsm⟩ : ∃ b, (decide ((b1.length : Int) ≤ ((60 : Nat) : Int)) && decide ((b2.length : Int) ≤ ((60 : Nat) : Int)) && decide ((b3.length : Int) ≤ ((60 : Nat) : Int))) = b := ⟨_, rfl⟩
  rw [hsm] at kS
  obtain ⟨c0, c1, c2⟩ := rb.box.c3
  go_wp2_with fail
  clear c0 c1 c2
  refine kS.mono ?_
  rintro e w2 ⟨rfl, hbx⟩
  replace lw := lw.next hbx
  replace ra := ra.next hbx
  replace rb := rb.next hbx
  clear hbx kS
  have HSM := M.small6 hsm
  clear hsm
  cases sm with
  | false =>
   go_wp2_with fail
   refine lw.known.mono ?_
   rintro e x9 ⟨rfl, hb9⟩
   go_wp2_with fail
   go_ret
   exact ⟨rfl, hb9⟩
  | true =>
   obtain ⟨s4, s5, s6⟩ := HSM rfl
   clear HSM
   obtain ⟨jq, hj⟩ : ∃ q, M.joinR a1 a2 a3 b1 b2 b3 = q := ⟨_, rfl⟩
   have hjl := M.joinR_len a1 a2 a3 b1 b2 b3
   rw [hj] at hjl
   obtain ⟨⟨r1, r2, r3⟩, er⟩ := jq
   simp only at hjl
   obtain ⟨e1, e2, e3⟩ := hjl
   have kJ := join_any XA YA ZA XB YB ZB xc yc zc xd yd zd a1 a2 a3 b1 b2 b3 w2 ra.r rb.r ra.cap rb.cap (by omega) (by omega)
   rw [hj] at kJ
   dsimp only at kJ
   obtain ⟨c0, c1, c2⟩ := ra.box.c3
   obtain ⟨d0, d1, d2⟩ := rb.box.c3
   go_wp2_with fail
   clear c0 c1 c2 d0 d1 d2
   refine (kJ).mono ?_
   rintro e x3 ⟨A1, xc1, B1, yc1, C1, zc1, rfl, rw1, cp1, hbx, -⟩
   replace lw := lw.next hbx
   replace ra := ra.next hbx
   replace rb := rb.next hbx
   clear hbx
   clear kJ
   obtain ⟨u1, HU1, bx1, hbx, -⟩ := boxes1 x3 #[.slice A1 r1.length xc1, .slice B1 r2.length yc1, .slice C1 r3.length zc1] 30
   replace lw := lw.next hbx
   replace ra := ra.next hbx
   replace rb := rb.next hbx
   have rj : R6 u1 x3.heap.size A1 B1 C1 xc1 yc1 zc1 r1 r2 r3 := ⟨bx1, rw1.next hbx, cp1⟩
   clear hbx bx1 rw1 cp1
   have kJ := rjoin16_any XA YA ZA XB YB ZB xc yc zc xd yd zd a1 a2 a3 b1 b2 b3 u1 ra.r rb.r (by omega) (by omega)
   rw [hj] at kJ
   dsimp only at kJ
   obtain ⟨c0, c1, c2⟩ := ra.box.c3
   obtain ⟨d0, d1, d2⟩ := rb.box.c3
   have hp := HU1.out
   go_wp2_with fail
   clear hp c0 c1 c2 d0 d1 d2
   refine (kJ).mono ?_
   rintro e x4 ⟨A2, xc2, B2, yc2, C2, zc2, rfl, rw2, cp2, hbx, -⟩
   replace lw := lw.next hbx
   replace ra := ra.next hbx
   replace rb := rb.next hbx
   replace rj := rj.next hbx
   clear hbx
   clear kJ
   obtain ⟨u2, HU2, bx2, hbx, -⟩ := boxes1 x4 #[.slice A2 r1.length xc2, .slice B2 r2.length yc2, .slice C2 r3.length zc2] 30
   replace lw := lw.next hbx
   replace ra := ra.next hbx
   replace rb := rb.next hbx
   replace rj := rj.next hbx
   have rk : R6 u2 x4.heap.size A2 B2 C2 xc2 yc2 zc2 r1 r2 r3 := ⟨bx2, rw2.next hbx, cp2⟩
   clear hbx bx2 rw2 cp2
   have qe : (er != er) = false := by simp
   have kE := same16_any A1 B1 C1 A2 B2 C2 xc1 yc1 zc1 xc2 yc2 zc2 r1 r2 r3 r1 r2 r3 u2 rj.r rk.r (by omega)
   rw [decide_eq_true ⟨rfl, rfl, rfl⟩] at kE
   obtain ⟨j0, j1, j2⟩ := rj.box.c3
   obtain ⟨k0, k1, k2⟩ := rk.box.c3
   have hp := HU2.out
   go_wp2_with fail
   clear hp j0 j1 j2 k0 k1 k2
   refine (kE).mono ?_
   rintro e x5 ⟨rfl, hbx⟩
   replace lw := lw.next hbx
   replace ra := ra.next hbx
   replace rb := rb.next hbx
   replace rj := rj.next hbx
   replace rk := rk.next hbx
   clear hbx
   clear kE
   clear qe rk
   by_cases h0 : er = 0
   case neg =>
    have q0 : (er != 0) = true := by simp [h0]
    go_wp2_with fail
    refine lw.known.mono ?_
    rintro e x9 ⟨rfl, hb9⟩
    go_wp2_with fail
    go_ret
    exact ⟨rfl, hb9⟩
   subst h0
   obtain ⟨g1, g2, g3⟩ := M.joinR_laws hj
   have g4 := (M.joinR_ok hj).2.2.2
   simp only at g2 g4
   have kJ := join_any XB YB ZB XA YA ZA xd yd zd xc yc zc b1 b2 b3 a1 a2 a3 x5 rb.r ra.r rb.cap ra.cap (by omega) (by omega)
   rw [g1] at kJ
   dsimp only at kJ
   obtain ⟨c0, c1, c2⟩ := ra.box.c3
   obtain ⟨d0, d1, d2⟩ := rb.box.c3
   go_wp2_with fail
   clear c0 c1 c2 d0 d1 d2
   refine (kJ).mono ?_
   rintro e x6 ⟨A3, xc3, B3, yc3, C3, zc3, rfl, rw3, cp3, hbx, -⟩
   replace lw := lw.next hbx
   replace ra := ra.next hbx
   replace rb := rb.next hbx
   replace rj := rj.next hbx
   clear hbx
   clear kJ
   obtain ⟨u3, HU3, bx3, hbx, -⟩ := boxes1 x6 #[.slice A3 r1.length xc3, .slice B3 r2.length yc3, .slice C3 r3.length zc3] 30
   replace lw := lw.next hbx
   replace ra := ra.next hbx
   replace rb := rb.next hbx
   replace rj := rj.next hbx
   have rs : R6 u3 x6.heap.size A3 B3 C3 xc3 yc3 zc3 r1 r2 r3 := ⟨bx3, rw3.next hbx, cp3⟩
   clear hbx bx3 rw3 cp3
   have kJ := join_any A1 B1 C1 XA YA ZA xc1 yc1 zc1 xc yc zc r1 r2 r3 a1 a2 a3 u3 rj.r ra.r rj.cap ra.cap (by omega) (by omega)
   rw [g2] at kJ
   dsimp only at kJ
   obtain ⟨c0, c1, c2⟩ := ra.box.c3
   obtain ⟨j0, j1, j2⟩ := rj.box.c3
   have hp := HU3.out
   go_wp2_with fail
   clear hp c0 c1 c2 j0 j1 j2
   refine (kJ).mono ?_
   rintro e x7 ⟨A4, xc4, B4, yc4, C4, zc4, rfl, rw4, cp4, hbx, -⟩
   replace lw := lw.next hbx
   replace ra := ra.next hbx
   replace rb := rb.next hbx
   replace rj := rj.next hbx
   replace rs := rs.next hbx
   clear hbx
   clear kJ
   obtain ⟨u4, HU4, bx4, hbx, -⟩ := boxes1 x7 #[.slice A4 r1.length xc4, .slice B4 r2.length yc4, .slice C4 r3.length zc4] 30
   replace lw := lw.next hbx
   replace ra := ra.next hbx
   replace rb := rb.next hbx
   replace rj := rj.next hbx
   replace rs := rs.next hbx
   have ru : R6 u4 x7.heap.size A4 B4 C4 xc4 yc4 zc4 r1 r2 r3 := ⟨bx4, rw4.next hbx, cp4⟩
   clear hbx bx4 rw4 cp4
   have kJ := join_any XA YA ZA XA YA ZA xc yc zc xc yc zc a1 a2 a3 a1 a2 a3 u4 ra.r ra.r ra.cap ra.cap (by omega) (by omega)
   rw [g3] at kJ
   dsimp only at kJ
   obtain ⟨c0, c1, c2⟩ := ra.box.c3
   have hp := HU4.out
   go_wp2_with fail
   clear hp c0 c1 c2
   refine (kJ).mono ?_
   rintro e x8 ⟨A5, xc5, B5, yc5, C5, zc5, rfl, rw5, cp5, hbx, -⟩
   replace lw := lw.next hbx
   replace ra := ra.next hbx
   replace rb := rb.next hbx
   replace rj := rj.next hbx
   replace rs := rs.next hbx
   replace ru := ru.next hbx
   clear hbx
   clear kJ
   obtain ⟨u5, HU5, bx5, hbx, -⟩ := boxes1 x8 #[.slice A5 a1.length xc5, .slice B5 a2.length yc5, .slice C5 a3.length zc5] 30
   replace lw := lw.next hbx
   replace ra := ra.next hbx
   replace rb := rb.next hbx
   replace rj := rj.next hbx
   replace rs := rs.next hbx
   replace ru := ru.next hbx
   have rv : R6 u5 x8.heap.size A5 B5 C5 xc5 yc5 zc5 a1 a2 a3 := ⟨bx5, rw5.next hbx, cp5⟩
   clear hbx bx5 rw5 cp5
   have kE := same16_any A1 B1 C1 A3 B3 C3 xc1 yc1 zc1 xc3 yc3 zc3 r1 r2 r3 r1 r2 r3 u5 rj.r rs.r (by omega)
   rw [decide_eq_true ⟨rfl, rfl, rfl⟩] at kE
   obtain ⟨j0, j1, j2⟩ := rj.box.c3
   obtain ⟨g0, g1, g2⟩ := rs.box.c3
   have hp := HU5.out
   go_wp2_with fail
   clear hp j0 j1 j2 g0 g1 g2
   refine (kE).mono ?_
   rintro e x9 ⟨rfl, hbx⟩
   replace lw := lw.next hbx
   replace ra := ra.next hbx
   replace rb := rb.next hbx
   replace rj := rj.next hbx
   replace rs := rs.next hbx
   replace ru := ru.next hbx
   replace rv := rv.next hbx
   clear hbx
   clear kE
   have kE := same16_any A1 B1 C1 A4 B4 C4 xc1 yc1 zc1 xc4 yc4 zc4 r1 r2 r3 r1 r2 r3 x9 rj.r ru.r (by omega)
   rw [decide_eq_true ⟨rfl, rfl, rfl⟩] at kE
   obtain ⟨j0, j1, j2⟩ := rj.box.c3
   obtain ⟨h0, h1, h2⟩ := ru.box.c3
   go_wp2_with fail
   clear j0 j1 j2 h0 h1 h2
   refine (kE).mono ?_
   rintro e x10 ⟨rfl, hbx⟩
   replace lw := lw.next hbx
   replace ra := ra.next hbx
   replace rb := rb.next hbx
   replace rj := rj.next hbx
   replace rs := rs.next hbx
   replace ru := ru.next hbx
   replace rv := rv.next hbx
   clear hbx
   clear kE
   have kE := same16_any A5 B5 C5 XA YA ZA xc5 yc5 zc5 xc yc zc a1 a2 a3 a1 a2 a3 x10 rv.r ra.r (by omega)
   rw [decide_eq_true ⟨rfl, rfl, rfl⟩] at kE
   obtain ⟨i0, i1, i2⟩ := rv.box.c3
   obtain ⟨c0, c1, c2⟩ := ra.box.c3
   go_wp2_with fail
   clear i0 i1 i2 c0 c1 c2
   refine (kE).mono ?_
   rintro e x11 ⟨rfl, hbx⟩
   replace lw := lw.next hbx
   replace ra := ra.next hbx
   replace rb := rb.next hbx
   replace rj := rj.next hbx
   replace rs := rs.next hbx
   replace ru := ru.next hbx
   replace rv := rv.next hbx
   clear hbx
   clear kE
   have kV := valid16_any A1 B1 C1 xc1 yc1 zc1 r1 r2 r3 x11 rj.r (by omega)
   rw [g4] at kV
   obtain ⟨j0, j1, j2⟩ := rj.box.c3
   go_wp2_with fail
   clear j0 j1 j2
   refine (kV).mono ?_
   rintro e x12 ⟨rfl, hbx⟩
   replace lw := lw.next hbx
   replace ra := ra.next hbx
   replace rb := rb.next hbx
   replace rj := rj.next hbx
   replace rs := rs.next hbx
   replace ru := ru.next hbx
   replace rv := rv.next hbx
   clear hbx
   clear kV
   go_wp2_with fail
   refine lw.known.mono ?_
   rintro e x9 ⟨rfl, hb9⟩
   go_wp2_with fail
   go_ret
   exact ⟨rfl, hb9⟩
end Go.Proofs.YtciolgmljpamlaaGreatDoor
end

section
namespace Go.Proofs.YtciolgmljpamlaaGreatDoor
open Go Go.RowKit
set_option maxRecDepth 100000
set_option maxHeartbeats 16000000 in
theorem constraintValid_walk (XA YA ZA : Option Addr) (xc yc zc : Nat) (ps ls : List P5) (cs : List P4) (n : Int) (w : World) (ht : Tab w) (hr : RW w XA YA ZA ps ls cs) (hca : ps.length ≤ xc ∧ ls.length ≤ yc ∧ cs.length ≤ zc) (hl : ps.length ≤ 9223372036854775807 ∧ ls.length ≤ 9223372036854775807 ∧ cs.length ≤ 9223372036854775807) :
  Calls Tryz.prog 4 #[ruv XA ps.length xc YA ls.length yc ZA cs.length zc, .int .i64 n] w fun e w' => e = .returned (.bool true) ∧ Below w.heap.size w w' := by
 obtain ⟨V, HW, x0, hB, -⟩ := boxes1 w #[.slice XA ps.length xc, .slice YA ls.length yc, .slice ZA cs.length zc] 30
 have lw : LW6 w V := ⟨ht.kept hB, hB⟩
 have ra : R6 V w.heap.size XA YA ZA xc yc zc ps ls cs := ⟨x0, hr.next hB, hca⟩
 clear x0 hB hr hca
 have kS := small16_any XA YA ZA xc yc zc ps.length ls.length cs.length (60 : Nat) V
 obtain ⟨sm, hsm⟩ : ∃ b, (decide ((ps.length : Int) ≤ ((60 : Nat) : Int)) && decide ((ls.length : Int) ≤ ((60 : Nat) : Int)) && decide ((cs.length : Int) ≤ ((60 : Nat) : Int))) = b := ⟨_, rfl⟩
 rw [hsm] at kS
 obtain ⟨c0, c1, c2⟩ := ra.box.c3
 have hV := HW.out
 go_enter Tryz.func4, Tryz.ntmps4
 go_wp2_with fail
 clear hV c0 c1 c2
 refine kS.mono ?_
 rintro e w1 ⟨rfl, hbx⟩
 replace lw := lw.next hbx
 replace ra := ra.next hbx
 clear hbx kS
 have HSM := M.small6 hsm
 clear hsm
 cases sm with
 | false =>
  go_wp2_with fail
  refine lw.known.mono ?_
  rintro e x9 ⟨rfl, hb9⟩
  go_wp2_with fail
  go_ret
  exact ⟨rfl, hb9⟩
 | true =>
  obtain ⟨s1, s2, s3⟩ := HSM rfl
  clear HSM
  obtain ⟨rv, hrv⟩ : ∃ b, M.rvalid ps ls cs = b := ⟨_, rfl⟩
  cases rv with
  | false =>
   have hno : (M.rvalid ps ls cs && M.isIn16 n 0 511) = false := by rw [hrv]; rfl
   obtain ⟨c0, c1, c2⟩ := ra.box.c3
   go_wp2_with fail
   clear c0 c1 c2
   refine (neighbours_no XA YA ZA xc yc zc ps ls cs n _ ra.r (by omega) (by omega) (by omega) hno).mono ?_
   rintro e x1 ⟨NA, nc, rfl, SN, hbx⟩
   replace lw := lw.next hbx
   replace ra := ra.next hbx
   clear hbx
   have k1 : Hid (∀ u : Kept x1.heap.size x1, Calls Tryz.prog 12 #[ruv XA ps.length xc YA ls.length yc ZA cs.length zc] u.val fun e w' => e = .returned (.bool false) ∧ Below u.val.heap.size u.val w') := Lib.hid (fun u => by rw [← hrv]; exact rvalid_any XA YA ZA xc yc zc ps ls cs u.val (ra.r.next u.h) (by omega) (by omega) (by omega))
   have k2 : Hid (∀ u : Kept x1.heap.size x1, Calls Tryz.prog 17 #[ruv XA ps.length xc YA ls.length yc ZA cs.length zc] u.val fun e w' => e = .returned (.bool false) ∧ Below u.val.heap.size u.val w') := Lib.hid (fun u => by rw [← hrv]; exact valid16_any XA YA ZA xc yc zc ps ls cs u.val (ra.r.next u.h) (by omega))
   obtain ⟨c0, c1, c2⟩ := ra.box.c3
   have lx := ra.box.lt
   go_wp2_with fail
   refine wp_region_kept x1.heap.size x1 (by kernel_rfl) (by kernel_rfl) (Below.refl _ _) ?_
   repeat (go_big_quiet_step (first | (go_at_call 12; exact Kept.calls (Nat.le_refl _) (k1.out _)) | (go_at_call 17; exact Kept.calls (Nat.le_refl _) (k2.out _))))
   refine wpQuiet_nil ?_
   rintro w5 ⟨⟨w5x, hbx⟩, hw5⟩
   dsimp only at hw5
   subst hw5
   clear k1 k2 lx c0 c1 c2
   replace lw := lw.next hbx
   replace ra := ra.next hbx
   replace SN := (SN.below hbx).more hbx.size
   clear hbx
   have kV := valid16_any XA YA ZA xc yc zc ps ls cs w5 ra.r (by omega)
   rw [hrv] at kV
   obtain ⟨c0, c1, c2⟩ := ra.box.c3
   go_wp2_with fail
   clear c0 c1 c2
   refine (kV).mono ?_
   rintro e x2 ⟨rfl, hbx⟩
   replace lw := lw.next hbx
   replace ra := ra.next hbx
   replace SN := (SN.below hbx).more hbx.size
   clear hbx
   clear kV
   go_wp2_with fail
   refine lw.known.mono ?_
   rintro e x9 ⟨rfl, hb9⟩
   go_wp2_with fail
   go_ret
   exact ⟨rfl, hb9⟩
  | true =>
   by_cases n1 : n < 0
   case pos =>
    have hno : (M.rvalid ps ls cs && M.isIn16 n 0 511) = false := by rw [hrv]; unfold M.isIn16; rw [decide_eq_false (by omega : ¬ 0 ≤ n)]; rfl
    have q1 : decide (n < 0) = true := decide_eq_true n1
    obtain ⟨c0, c1, c2⟩ := ra.box.c3
    go_wp2_with fail
    clear c0 c1 c2
    refine (neighbours_no XA YA ZA xc yc zc ps ls cs n _ ra.r (by omega) (by omega) (by omega) hno).mono ?_
    rintro e x1 ⟨NA, nc, rfl, SN, hbx⟩
    replace lw := lw.next hbx
    replace ra := ra.next hbx
    clear hbx
    have k1 : Hid (∀ u : Kept x1.heap.size x1, Calls Tryz.prog 12 #[ruv XA ps.length xc YA ls.length yc ZA cs.length zc] u.val fun e w' => e = .returned (.bool true) ∧ Below u.val.heap.size u.val w') := Lib.hid (fun u => by rw [← hrv]; exact rvalid_any XA YA ZA xc yc zc ps ls cs u.val (ra.r.next u.h) (by omega) (by omega) (by omega))
    have k2 : Hid (∀ u : Kept x1.heap.size x1, Calls Tryz.prog 17 #[ruv XA ps.length xc YA ls.length yc ZA cs.length zc] u.val fun e w' => e = .returned (.bool true) ∧ Below u.val.heap.size u.val w') := Lib.hid (fun u => by rw [← hrv]; exact valid16_any XA YA ZA xc yc zc ps ls cs u.val (ra.r.next u.h) (by omega))
    obtain ⟨c0, c1, c2⟩ := ra.box.c3
    have lx := ra.box.lt
    go_wp2_with fail
    refine wp_region_kept x1.heap.size x1 (by kernel_rfl) (by kernel_rfl) (Below.refl _ _) ?_
    repeat (go_big_quiet_step (first | (go_at_call 12; exact Kept.calls (Nat.le_refl _) (k1.out _)) | (go_at_call 17; exact Kept.calls (Nat.le_refl _) (k2.out _))))
    refine wpQuiet_nil ?_
    rintro w5 ⟨⟨w5x, hbx⟩, hw5⟩
    dsimp only at hw5
    subst hw5
    clear k1 k2 lx c0 c1 c2
    replace lw := lw.next hbx
    replace ra := ra.next hbx
    replace SN := (SN.below hbx).more hbx.size
    clear hbx
    have kV := valid16_any XA YA ZA xc yc zc ps ls cs w5 ra.r (by omega)
    rw [hrv] at kV
    obtain ⟨c0, c1, c2⟩ := ra.box.c3
    go_wp2_with fail
    clear c0 c1 c2
    refine (kV).mono ?_
    rintro e x2 ⟨rfl, hbx⟩
    replace lw := lw.next hbx
    replace ra := ra.next hbx
    replace SN := (SN.below hbx).more hbx.size
    clear hbx
    clear kV
    go_wp2_with fail
    refine lw.known.mono ?_
    rintro e x9 ⟨rfl, hb9⟩
    go_wp2_with fail
    go_ret
    exact ⟨rfl, hb9⟩
   have q1 : decide (n < 0) = false := decide_eq_false n1
   by_cases n2 : 511 < n
   case pos =>
    have hno : (M.rvalid ps ls cs && M.isIn16 n 0 511) = false := by rw [hrv]; unfold M.isIn16; rw [decide_eq_false (by omega : ¬ n ≤ 511), Bool.and_false]; rfl
    have q2 : decide (511 < n) = true := decide_eq_true n2
    obtain ⟨c0, c1, c2⟩ := ra.box.c3
    go_wp2_with fail
    clear c0 c1 c2
    refine (neighbours_no XA YA ZA xc yc zc ps ls cs n _ ra.r (by omega) (by omega) (by omega) hno).mono ?_
    rintro e x1 ⟨NA, nc, rfl, SN, hbx⟩
    replace lw := lw.next hbx
    replace ra := ra.next hbx
    clear hbx
    have k1 : Hid (∀ u : Kept x1.heap.size x1, Calls Tryz.prog 12 #[ruv XA ps.length xc YA ls.length yc ZA cs.length zc] u.val fun e w' => e = .returned (.bool true) ∧ Below u.val.heap.size u.val w') := Lib.hid (fun u => by rw [← hrv]; exact rvalid_any XA YA ZA xc yc zc ps ls cs u.val (ra.r.next u.h) (by omega) (by omega) (by omega))
    have k2 : Hid (∀ u : Kept x1.heap.size x1, Calls Tryz.prog 17 #[ruv XA ps.length xc YA ls.length yc ZA cs.length zc] u.val fun e w' => e = .returned (.bool true) ∧ Below u.val.heap.size u.val w') := Lib.hid (fun u => by rw [← hrv]; exact valid16_any XA YA ZA xc yc zc ps ls cs u.val (ra.r.next u.h) (by omega))
    obtain ⟨c0, c1, c2⟩ := ra.box.c3
    have lx := ra.box.lt
    go_wp2_with fail
    refine wp_region_kept x1.heap.size x1 (by kernel_rfl) (by kernel_rfl) (Below.refl _ _) ?_
    repeat (go_big_quiet_step (first | (go_at_call 12; exact Kept.calls (Nat.le_refl _) (k1.out _)) | (go_at_call 17; exact Kept.calls (Nat.le_refl _) (k2.out _))))
    refine wpQuiet_nil ?_
    rintro w5 ⟨⟨w5x, hbx⟩, hw5⟩
    dsimp only at hw5
    subst hw5
    clear k1 k2 lx c0 c1 c2
    replace lw := lw.next hbx
    replace ra := ra.next hbx
    replace SN := (SN.below hbx).more hbx.size
    clear hbx
    have kV := valid16_any XA YA ZA xc yc zc ps ls cs w5 ra.r (by omega)
    rw [hrv] at kV
    obtain ⟨c0, c1, c2⟩ := ra.box.c3
    go_wp2_with fail
    clear c0 c1 c2
    refine (kV).mono ?_
    rintro e x2 ⟨rfl, hbx⟩
    replace lw := lw.next hbx
    replace ra := ra.next hbx
    replace SN := (SN.below hbx).more hbx.size
    clear hbx
    clear kV
    go_wp2_with fail
    refine lw.known.mono ?_
    rintro e x9 ⟨rfl, hb9⟩
    go_wp2_with fail
    go_ret
    exact ⟨rfl, hb9⟩
   have q2 : decide (511 < n) = false := decide_eq_false n2
   have hn : M.isIn16 n 0 511 = true := by unfold M.isIn16; rw [decide_eq_true (by omega : 0 ≤ n), decide_eq_true (by omega : n ≤ 511)]; rfl
   have hnn : (M.nbs n ps ls).length ≤ 512 := M.nbk_len n ps ls 512
   obtain ⟨c0, c1, c2⟩ := ra.box.c3
   go_wp2_with fail
   clear c0 c1 c2
   refine (neighbours_ok XA YA ZA xc yc zc ps ls cs n _ ra.r (by omega) hrv hn).mono ?_
   rintro e x1 ⟨NA, nc, rfl, SN, hbx⟩
   replace lw := lw.next hbx
   replace ra := ra.next hbx
   clear hbx
   have k1 : Hid (∀ u : Kept x1.heap.size x1, Calls Tryz.prog 12 #[ruv XA ps.length xc YA ls.length yc ZA cs.length zc] u.val fun e w' => e = .returned (.bool true) ∧ Below u.val.heap.size u.val w') := Lib.hid (fun u => by rw [← hrv]; exact rvalid_any XA YA ZA xc yc zc ps ls cs u.val (ra.r.next u.h) (by omega) (by omega) (by omega))
   have k2 : Hid (∀ u : Kept x1.heap.size x1, Calls Tryz.prog 17 #[ruv XA ps.length xc YA ls.length yc ZA cs.length zc] u.val fun e w' => e = .returned (.bool true) ∧ Below u.val.heap.size u.val w') := Lib.hid (fun u => by rw [← hrv]; exact valid16_any XA YA ZA xc yc zc ps ls cs u.val (ra.r.next u.h) (by omega))
   obtain ⟨c0, c1, c2⟩ := ra.box.c3
   have lx := ra.box.lt
   go_wp2_with fail
   refine wp_region_kept x1.heap.size x1 (by kernel_rfl) (by kernel_rfl) (Below.refl _ _) ?_
   repeat (go_big_quiet_step (first | (go_at_call 12; exact Kept.calls (Nat.le_refl _) (k1.out _)) | (go_at_call 17; exact Kept.calls (Nat.le_refl _) (k2.out _))))
   refine wpQuiet_nil ?_
   rintro w5 ⟨⟨w5x, hbx⟩, hw5⟩
   dsimp only at hw5
   subst hw5
   clear k1 k2 lx c0 c1 c2
   replace lw := lw.next hbx
   replace ra := ra.next hbx
   replace SN := (SN.below hbx).more hbx.size
   clear hbx
   have kV := valid16_any XA YA ZA xc yc zc ps ls cs w5 ra.r (by omega)
   rw [hrv] at kV
   obtain ⟨c0, c1, c2⟩ := ra.box.c3
   go_wp2_with fail
   clear c0 c1 c2
   refine (kV).mono ?_
   rintro e x2 ⟨rfl, hbx⟩
   replace lw := lw.next hbx
   replace ra := ra.next hbx
   replace SN := (SN.below hbx).more hbx.size
   clear hbx
   clear kV
   obtain ⟨c0, c1, c2⟩ := ra.box.c3
   go_wp2_with fail
   clear c0 c1 c2
   refine (neigh16_any XA YA ZA xc yc zc ps ls cs n _ ra.r (by omega)).mono ?_
   rintro e x3 ⟨MA, mc, rfl, SM, hbx⟩
   replace lw := lw.next hbx
   replace ra := ra.next hbx
   replace SN := (SN.below hbx).more hbx.size
   clear hbx
   have kE := lsame16_any NA MA nc mc (M.nbs n ps ls) (M.nbs n ps ls) x3 SN SM (by omega)
   rw [decide_eq_true rfl] at kE
   generalize M.nbs n ps ls = ll at *
   go_wp2_with fail
   refine (kE).mono ?_
   rintro e x4 ⟨rfl, hbx⟩
   replace lw := lw.next hbx
   replace ra := ra.next hbx
   replace SN := (SN.below hbx).more hbx.size
   clear hbx
   clear kE
   go_wp2_with fail
   refine lw.known.mono ?_
   rintro e x9 ⟨rfl, hb9⟩
   go_wp2_with fail
   go_ret
   exact ⟨rfl, hb9⟩
end Go.Proofs.YtciolgmljpamlaaGreatDoor
end

section
namespace Go.Proofs.YtciolgmljpamlaaGreatDoor
open Go Go.RowKit
set_option maxRecDepth 100000
structure LI (w wq : World) (base : Nat) (ps ls : List P5) (v1 v2 : Value) : Prop where
  below : Below w.heap.size w wq
  hb : w.heap.size + 1 + 1 < base
  hs : base ≤ wq.heap.size
  a : RC wq base w.heap.size ps [] [] v1 (.slice none 0 0) (.slice none 0 0)
  b : RC wq base (w.heap.size + 1) [] ls [] (.slice none 0 0) v2 (.slice none 0 0)
  c : Box wq (w.heap.size + 1 + 1) #[.slice none 0 0, .slice none 0 0, .slice none 0 0] 30
theorem own_slC {α : Type} {size : Nat} {cell : α → Nat → Value} {w : World} {base : Nat} {e : TypeId} {A : Option Addr} {n c m : Nat} {xs : List α} (hs : 0 < size) (h : w.ownsRow base e size (.slice A n c) m (flat size cell xs)) : Sl size cell w w.heap.size A xs := by
  obtain ⟨A', c', e1, -, S⟩ := own_sliceC hs h
  cases e1
  exact S
theorem LI.addP {w wq w1 : World} {base : Nat} {ps ls : List P5} {v1 v2 v : Value} (h : LI w wq base ps ls v1 v2) (x : P5) (ho : w1.ownsRow base 66 5 v (ps.length + 1) (flat 5 p5cell (ps ++ [x]))) (hb : Below w.heap.size w w1) (hg : wq.grownBy w1 v1.ownBlock) : LI w (w1.setCell ⟨w.heap.size, 0, none⟩ v) base (ps ++ [x]) ls v v2 := by
  have h1 := h.hb
  refine ⟨hb.setCell (p := ⟨w.heap.size, 0, none⟩) (Nat.le_refl _) _, h1, ?_, h.a.addP (by omega) ho (by rw [List.length_append]; rfl) hg, ⟨(h.b.box.grown hg (h.b.box.ne_own (by decide) h.a.p)).set_other (by dsimp only; omega) _, own_nil _ _ _ _ _, ownsRow_setCell_below (h.b.l.kept hg (own_ne h.b.l h.a.p (by decide))) (by dsimp only; omega) _, own_nil _ _ _ _ _⟩, (h.c.grown hg (h.c.ne_own (by decide) h.a.p)).set_other (by dsimp only; omega) _⟩
  rw [World.size_setCell]
  exact Nat.le_trans h.hs hg.size
theorem LI.addL {w wq w1 : World} {base : Nat} {ps ls : List P5} {v1 v2 v : Value} (h : LI w wq base ps ls v1 v2) (x : P5) (ho : w1.ownsRow base 68 5 v (ls.length + 1) (flat 5 p5cell (ls ++ [x]))) (hb : Below w.heap.size w w1) (hg : wq.grownBy w1 v2.ownBlock) : LI w (w1.setCell ⟨w.heap.size + 1, 1, none⟩ v) base ps (ls ++ [x]) v1 v := by
  have h1 := h.hb
  refine ⟨hb.setCell (p := ⟨w.heap.size + 1, 1, none⟩) (by dsimp only; omega) _, h1, ?_, ⟨(h.a.box.grown hg (h.a.box.ne_own (by decide) h.b.l)).set_other (by dsimp only; omega) _, ownsRow_setCell_below (h.a.p.kept hg (own_ne h.a.p h.b.l (by decide))) (by dsimp only; omega) _, own_nil _ _ _ _ _, own_nil _ _ _ _ _⟩, h.b.addL (by omega) ho (by rw [List.length_append]; rfl) hg, (h.c.grown hg (h.c.ne_own (by decide) h.b.l)).set_other (by dsimp only; omega) _⟩
  rw [World.size_setCell]
  exact Nat.le_trans h.hs hg.size
theorem R6.set_far {w : World} {b : Nat} {XA YA ZA : Option Addr} {xc yc zc : Nat} {ps ls : List P5} {cs : List P4} (h : R6 w b XA YA ZA xc yc zc ps ls cs) {c i : Nat} {u : Value} (h0 : b ≠ c) (h1 : ∀ ad, XA = some ad → c ≠ ad.block) (h2 : ∀ ad, YA = some ad → c ≠ ad.block) (h3 : ∀ ad, ZA = some ad → c ≠ ad.block) : R6 (w.setCell ⟨c, i, none⟩ u) b XA YA ZA xc yc zc ps ls cs := by
  obtain ⟨hb, ⟨r1, r2, r3⟩, hc⟩ := h
  exact ⟨hb.set_other h0 u, ⟨sl_set1 r1 h1, sl_set1 r2 h2, sl_set1 r3 h3⟩, hc⟩
set_option maxHeartbeats 32000000 in
theorem constraintLimits_walk (w : World) (ht : Tab w) :
    Calls Tryz.prog 8 #[] w fun e w' => e = .returned (.bool true) ∧ Below w.heap.size w w' := by
  obtain ⟨V, HW, xa, xb, xc, hB, hVs⟩ := boxes3 w #[.slice none 0 0, .slice none 0 0, .slice none 0 0] 30 #[.slice none 0 0, .slice none 0 0, .slice none 0 0] 30 #[.slice none 0 0, .slice none 0 0, .slice none 0 0] 30
  obtain ⟨base, hbase⟩ : ∃ base, base = V.heap.size := ⟨_, rfl⟩
  have li : LI w V base [] [] (.slice none 0 0) (.slice none 0 0) := ⟨hB, by omega, by omega, ⟨xa, own_nil _ _ _ _ _, own_nil _ _ _ _ _, own_nil _ _ _ _ _⟩, ⟨xb, own_nil _ _ _ _ _, own_nil _ _ _ _ _, own_nil _ _ _ _ _⟩, xc⟩
  clear hbase hVs xa xb xc hB
  obtain ⟨ip, hip, hz0, hz1, hz2⟩ := info_parts pairInfo
  have Hip := Lib.hid hip; have Hzp0 := Lib.hid hz0; have Hzp1 := Lib.hid hz1; have Hzp2 := Lib.hid hz2
  obtain ⟨il, hil, hw0, hw1, hw2⟩ := info_parts loadInfo
  have Hil := Lib.hid hil; have Hzl0 := Lib.hid hw0; have Hzl1 := Lib.hid hw1; have Hzl2 := Lib.hid hw2
  clear hip hz0 hz1 hz2 hil hw0 hw1 hw2
  have hV := HW.out
  go_enter Tryz.func8, Tryz.ntmps8
  go_wp2_with fail
  clear hV HW
  go_loopw [4, 5] (fun x _ wq => ∃ (n : Nat) (v1 : Value) (ps : List P5), n ≤ 59 ∧ x = .int .i64 n ∧ LI w wq base ps [] v1 (.slice none 0 0) ∧ ps.length ≤ 4096 ∧ Hid (ps = (M.limAll n).take 4096)) (fun x _ _ => 100 - (intOf x).toNat)
  case atStart => exact ⟨0, _, [], by omega, rfl, li, by simp, Lib.hid rfl⟩
  case round =>
    clear li
    obtain ⟨n, v1, ps, hn, rfl, li, hpl, HP⟩ := hrel
    obtain ⟨A1, c1, rfl, hc1, -⟩ := own_sliceC (by decide) li.a.p
    obtain ⟨y0, -, -⟩ := li.a.box.c3
    by_cases hlt : ps.length < 4096
    · have q0 : decide ((ps.length : Int) < 4096) = true := decide_eq_true (by omega)
      have hn2 : n < 59 := by
        rcases Nat.lt_or_ge n 59 with h | h
        · exact h
        · exfalso
          have e : n = 59 := by omega
          subst e
          have h2 := HP.out
          have h3 := M.limAll_len59
          rw [h2, List.length_take, h3] at hlt
          omega
      have HP2 : Hid (ps = M.limAll n ++ (M.limRow n).take 0) := Lib.hid (by
        have h2 := HP.out
        have h3 : (M.limAll n).length ≤ 4096 := by
          rw [h2, List.length_take] at hlt
          omega
        rw [h2, List.take_of_length_le h3, List.take_zero, List.append_nil])
      clear HP
      go_wp2_with fail
      clear y0 q0
      go_loopw [5] (fun y wq => ∃ (m : Nat) (v1 : Value) (ps : List P5), n + 1 ≤ m ∧ m ≤ 100 ∧ y = .int .i64 m ∧ LI w wq base ps [] v1 (.slice none 0 0) ∧ ps.length ≤ 4096 ∧ Hid (ps = M.limAll n ++ (M.limRow n).take (m - (n + 1)))) (fun y _ => 100 - (intOf y).toNat)
      case atStart => exact ⟨n + 1, _, ps, Nat.le_refl _, by omega, by go_num, li, by omega, by rw [Nat.sub_self]; exact HP2⟩
      case round =>
        clear li HP2 hlt hpl hc1
        obtain ⟨m, v1, ps, hm1, hm2, rfl, li, hpl, HP⟩ := hrel
        obtain ⟨A2, c2, rfl, hc2, -⟩ := own_sliceC (by decide) li.a.p
        obtain ⟨y0, y1, y2⟩ := li.a.box.c3
        by_cases hlt : m < 100
        · have q1 : decide ((m : Int) < 100) = true := decide_eq_true (by omega)
          by_cases hlp : ps.length < 4096
          · have q0 : decide ((ps.length : Int) < 4096) = true := decide_eq_true (by omega)
            have f0 := li.a.box.frozen 0
            have hown := li.a.p
            have HN : Hid (ps ++ [⟨(n : Int), (m : Int), 0, 2, 51⟩] = M.limAll n ++ (M.limRow n).take (m + 1 - (n + 1))) := Lib.hid (by
              rw [HP.out, show m + 1 - (n + 1) = (m - (n + 1)) + 1 by omega, M.limRow_take (by omega), List.append_assoc, show n + 1 + (m - (n + 1)) = m by omega])
            clear HP
            go_wp2_with (at_builtin; refine wpList_push (w0 := w) (cell := p5cell) (y := (⟨(n : Int), (m : Int), 0, 2, 51⟩ : P5)) rfl _ _ _ rfl base w.heap.size 66 ip _ 40 Tryz.underlying26 Hip.out Hzp0.out Hzp1.out Hzp2.out rfl (by decide) (.slice A2 ps.length c2) ps.length ps rfl hown _ _ (by rfl) _ rfl (p5_one _) (by unfold maxLen; omega) (by omega) li.hs (by have := li.hb; omega) li.below ?_; intro v9 w9 hown9 hb9 hg9; have b9 := li.a.box.grown hg9 (li.a.box.ne_own (by decide) hown); obtain ⟨z0, z1, z2⟩ := b9.c3; have f9 := b9.frozen 0; obtain ⟨g9, cap9, rfl⟩ := ownsRow_succ hown9)
            have li9 := li.addP ⟨(n : Int), (m : Int), 0, 2, 51⟩ hown9 hb9 hg9
            go_roundw
            case rel => exact ⟨m + 1, _, _, by omega, by omega, by go_num, li9, by rw [List.length_append, List.length_singleton]; omega, HN⟩
            case measure => simp [intOf]; omega
          · have q0 : decide ((ps.length : Int) < 4096) = false := decide_eq_false (by omega)
            have HE : Hid (ps = (M.limAll (n + 1)).take 4096) := Lib.hid (by
              have h1 := HP.out
              have h2 : ps.length = 4096 := by omega
              have h3 : M.limAll (n + 1) = ps ++ (M.limRow n).drop (m - (n + 1)) := by rw [M.limAll_succ, h1, List.append_assoc, List.take_append_drop]
              rw [h3, List.take_append_of_le_length (by omega), List.take_of_length_le (by omega)])
            clear HP
            go_wp2_with fail
            go_roundw
            case rel => exact ⟨n + 1, _, _, by omega, by go_num, li, hpl, HE⟩
            case measure => simp [intOf]; omega
        · obtain rfl : m = 100 := by omega
          have HE : Hid (ps = (M.limAll (n + 1)).take 4096) := Lib.hid (by
            have h1 := HP.out
            rw [List.take_of_length_le (by rw [M.limRow_len]; omega)] at h1
            rw [M.limAll_succ, ← h1, List.take_of_length_le hpl])
          clear HP
          have q1 : decide (((100 : Nat) : Int) < 100) = false := by decide
          go_wp2_with fail
          go_roundw
          case rel => exact ⟨n + 1, _, _, by omega, by go_num, li, hpl, HE⟩
          case measure => simp [intOf]; omega
    · have q0 : decide ((ps.length : Int) < 4096) = false := decide_eq_false (by omega)
      obtain rfl : ps = M.limP := by
        have h1 := HP.out
        rw [h1]
        refine M.limAll_end hn ?_
        rw [h1, List.length_take] at hlt
        omega
      clear HP hlt hpl hn
      go_wp2_with fail
      clear y0 q0
      go_loopw [6, 7] (fun x _ wq => ∃ (n : Nat) (v2 : Value) (ls : List P5), n ≤ 32 ∧ x = .int .i64 n ∧ LI w wq base M.limP ls (.slice A1 M.limP.length c1) v2 ∧ Hid (ls = M.limL2 n) ∧ ls.length = n * 32) (fun x _ _ => 100 - (intOf x).toNat)
      case atStart => exact ⟨0, _, [], by omega, rfl, li, Lib.hid rfl, rfl⟩
      case round =>
        clear li
        obtain ⟨n, v2, ls, hn, rfl, li, HL, hll⟩ := hrel
        by_cases hlt : n < 32
        · have q0 : decide ((n : Int) < 32) = true := decide_eq_true (by omega)
          have HL2 : Hid (ls = M.limL2 n ++ (M.limR2 n).take 0) := Lib.hid (by rw [HL.out]; simp)
          have HLL := Lib.hid hll
          clear HL hll
          go_wp2_with fail
          clear q0
          go_loopw [7] (fun y wq => ∃ (m : Nat) (v2 : Value) (ls : List P5), 100 ≤ m ∧ m ≤ 132 ∧ y = .int .i64 m ∧ LI w wq base M.limP ls (.slice A1 M.limP.length c1) v2 ∧ Hid (ls = M.limL2 n ++ (M.limR2 n).take (m - 100)) ∧ Hid (ls.length = n * 32 + (m - 100))) (fun y _ => 200 - (intOf y).toNat)
          case atStart => exact ⟨100, _, ls, Nat.le_refl _, by omega, by go_num, li, HL2, HLL⟩
          case round =>
            clear li HL2 HLL
            obtain ⟨m, v2, ls, hm1, hm2, rfl, li, HL, HLL⟩ := hrel
            obtain ⟨A2, c2, rfl, hc2, -⟩ := own_sliceC (by decide) li.b.l
            obtain ⟨y0, y1, y2⟩ := li.b.box.c3
            by_cases hlm : m < 132
            · have q1 : decide ((m : Int) < 132) = true := decide_eq_true (by omega)
              have f0 := li.b.box.frozen 1
              have hown := li.b.l
              have hl2k : ls.length ≤ 2000 := by rw [HLL.out]; omega
              have HN : Hid (ls ++ [⟨(n : Int), (m : Int), 1, 2, 2⟩] = M.limL2 n ++ (M.limR2 n).take (m + 1 - 100)) := Lib.hid (by
                rw [HL.out, show m + 1 - 100 = (m - 100) + 1 by omega, M.limR2_take (by omega), List.append_assoc, show 100 + (m - 100) = m by omega])
              have HNL : Hid ((ls ++ [(⟨(n : Int), (m : Int), 1, 2, 2⟩ : P5)]).length = n * 32 + (m + 1 - 100)) := Lib.hid (by rw [List.length_append, List.length_singleton, HLL.out]; omega)
              clear HL HLL
              go_wp2_with (at_builtin; refine wpList_push (w0 := w) (cell := p5cell) (y := (⟨(n : Int), (m : Int), 1, 2, 2⟩ : P5)) rfl _ _ _ rfl base w.heap.size 68 il _ 40 Tryz.underlying27 Hil.out Hzl0.out Hzl1.out Hzl2.out rfl (by decide) (.slice A2 ls.length c2) ls.length ls rfl hown _ _ (by rfl) _ rfl (p5_one _) (by unfold maxLen; omega) (by omega) li.hs (by have := li.hb; omega) li.below ?_; intro v9 w9 hown9 hb9 hg9; have b9 := li.b.box.grown hg9 (li.b.box.ne_own (by decide) hown); obtain ⟨z0, z1, z2⟩ := b9.c3; have f9 := b9.frozen 1; obtain ⟨g9, cap9, rfl⟩ := ownsRow_succ hown9)
              have li9 := li.addL ⟨(n : Int), (m : Int), 1, 2, 2⟩ hown9 hb9 hg9
              go_roundw
              case rel => exact ⟨m + 1, _, _, by omega, by omega, by go_num, li9, HN, HNL⟩
              case measure => simp [intOf]; omega
            · obtain rfl : m = 132 := by omega
              have HE : Hid (ls = M.limL2 (n + 1)) := Lib.hid (by rw [HL.out, M.limL2_succ, List.take_of_length_le (by rw [M.limR2_len]; omega)])
              have hEL : ls.length = (n + 1) * 32 := by rw [HLL.out]; omega
              clear HL HLL
              have q1 : decide (((132 : Nat) : Int) < 132) = false := by decide
              go_wp2_with fail
              go_roundw
              case rel => exact ⟨n + 1, _, _, by omega, by go_num, li, HE, hEL⟩
              case measure => simp [intOf]; omega
        · obtain rfl : n = 32 := by omega
          have q0 : decide (((32 : Nat) : Int) < 32) = false := by decide
          obtain rfl : ls = M.limL := HL.out
          clear HL hlt hll hn
          obtain ⟨A2, c2, rfl, hc2, -⟩ := own_sliceC (by decide) li.b.l
          have ra : R6 wr w.heap.size A1 none none c1 0 0 M.limP [] [] := ⟨li.a.box, ⟨own_slC (by decide) li.a.p, Sl.nil_, Sl.nil_⟩, hc1, Nat.le_refl _, Nat.le_refl _⟩
          have rb : R6 wr (w.heap.size + 1) none A2 none 0 c2 0 [] M.limL [] := ⟨li.b.box, ⟨Sl.nil_, own_slC (by decide) li.b.l, Sl.nil_⟩, Nat.le_refl _, hc2, Nat.le_refl _⟩
          have xc := li.c
          have xw := li.below
          have hb3 := li.hb
          have hb4 := li.hs
          have fa := own_farV li.a.p (Nat.le_refl _)
          have fb := own_farV li.b.l (Nat.le_refl _)
          have hlp := M.limP_len
          have hll := M.limL_len
          have j1 := M.lim_one
          have j2 := M.lim_two
          have j3 := M.lim_three
          have j4 := M.lim_four
          clear li hc1 hc2
          generalize M.limP = P at *
          generalize M.limL = Q at *
          have Hlp := Lib.hid hlp; have Hll := Lib.hid hll
          have p1 : P.length ≤ 5000 := by omega
          have p2 : Q.length ≤ 5000 := by omega
          clear hlp hll
          have J1 := Lib.hid j1; have J2 := Lib.hid j2; have J3 := Lib.hid j3; have J4 := Lib.hid j4
          clear j1 j2 j3 j4
          obtain ⟨U, HU, u1, u2, u3, hBU, -⟩ := boxes3 wr #[.int .i64 500, .int .i64 501, .int .i64 0, .int .i64 2, .int .i64 2] 66 #[.int .i64 500, .int .i64 501, .int .i64 1, .int .i64 2, .int .i64 2] 68 #[.slice (some (⟨wr.heap.size, 0, none⟩ : Addr)) 1 1, .slice (some (⟨wr.heap.size + 1, 0, none⟩ : Addr)) 1 1, .slice none 0 0] 30
          obtain ⟨X, HX⟩ : ∃ X, Hid (U.setCell ⟨w.heap.size + 1 + 1, 0, none⟩ (.slice (some (⟨wr.heap.size, 0, none⟩ : Addr)) 1 1) = X) := ⟨_, Lib.hid rfl⟩
          have xcU := xc.below hBU
          have fz := xcU.frozen 0
          have fy0 := u3.frozen 0
          have fy1 := u3.frozen 1
          have fy2 := u3.frozen 2
          have hsm := u3.same (i := 2) (v := .slice none 0 0) rfl
          obtain ⟨o0, o1, o2⟩ := u3.c3
          obtain ⟨g0, g1, g2⟩ := xcU.c3
          have hwr : w.heap.size + 1 + 1 < wr.heap.size := by omega
          have ra' := (ra.next hBU).set_far (i := 0) (c := w.heap.size + 1 + 1) (u := .slice (some (⟨wr.heap.size, 0, none⟩ : Addr)) 1 1) (by omega) (fun ad h => by have := fa ad h; omega) (fun _ h => by cases h) (fun _ h => by cases h)
          have rb' := (rb.next hBU).set_far (i := 0) (c := w.heap.size + 1 + 1) (u := .slice (some (⟨wr.heap.size, 0, none⟩ : Addr)) 1 1) (by omega) (fun _ h => by cases h) (fun ad h => by have := fb ad h; omega) (fun _ h => by cases h)
          have so1 : Sl 5 p5cell U U.heap.size (some (⟨wr.heap.size, 0, none⟩ : Addr)) [M.limO] := Sl.of_box u1 rfl
          have so2 : Sl 5 p5cell U U.heap.size (some (⟨wr.heap.size + 1, 0, none⟩ : Addr)) [M.limQ] := Sl.of_box u2 rfl
          have so1' := sl_set1 (i := 0) (b := w.heap.size + 1 + 1) (u := .slice (some (⟨wr.heap.size, 0, none⟩ : Addr)) 1 1) so1 (fun ad h => by cases h; dsimp only; omega)
          have so2' := sl_set1 (i := 0) (b := w.heap.size + 1 + 1) (u := .slice (some (⟨wr.heap.size, 0, none⟩ : Addr)) 1 1) so2 (fun ad h => by cases h; dsimp only; omega)
          have xc' := xcU.set 0 (.slice (some (⟨wr.heap.size, 0, none⟩ : Addr)) 1 1)
          have xo' := u3.set_other (p := ⟨w.heap.size + 1 + 1, 0, none⟩) (by dsimp only; omega) (.slice (some (⟨wr.heap.size, 0, none⟩ : Addr)) 1 1)
          have xw' := (after_ xw hBU).setCell (p := ⟨w.heap.size + 1 + 1, 0, none⟩) (by dsimp only; omega) (.slice (some (⟨wr.heap.size, 0, none⟩ : Addr)) 1 1)
          rw [HX.out] at ra' rb' so1' so2' xc' xo' xw'
          have lw : LW6 w X := ⟨ht.kept xw', xw'⟩
          have rc : R6 X (w.heap.size + 1 + 1) (some (⟨wr.heap.size, 0, none⟩ : Addr)) none none 1 0 0 [M.limO] [] [] := ⟨xc', ⟨so1', Sl.nil_, Sl.nil_⟩, Nat.le_refl _, Nat.le_refl _, Nat.le_refl _⟩
          have ro : R6 X (wr.heap.size + 1 + 1) (some (⟨wr.heap.size, 0, none⟩ : Addr)) (some (⟨wr.heap.size + 1, 0, none⟩ : Addr)) none 1 1 0 [M.limO] [M.limQ] [] := ⟨xo', ⟨so1', so2', Sl.nil_⟩, Nat.le_refl _, Nat.le_refl _, Nat.le_refl _⟩
          clear ra rb so1 so2 so1' so2' xc' xo' xcU xc hBU u1 u2 u3 xw xw' fa fb
          replace ra := ra'
          replace rb := rb'
          clear ra' rb'
          have hU := HU.out
          go_upto_region 18 with fail
          rw [HX.out]
          clear hU o0 o1 o2 g0 g1 g2 fz fy0 fy1 fy2 hsm
          have kJ := join_any A1 none none none A2 none c1 0 0 0 c2 0 P [] [] [] Q [] X ra.r rb.r ra.cap rb.cap (by (try simp) <;> omega) (by (try simp) <;> omega)
          rw [J1.out] at kJ
          dsimp only at kJ
          obtain ⟨c0, c1, c2⟩ := ra.box.c3
          obtain ⟨d0, d1, d2⟩ := rb.box.c3
          go_wp2_with fail
          clear c0 c1 c2 d0 d1 d2
          refine (kJ).mono ?_
          rintro e x1 ⟨A3, xc3, B3, yc3, C3, zc3, rfl, rw3, cp3, hbx, -⟩
          replace lw := lw.next hbx
          replace ra := ra.next hbx
          replace rb := rb.next hbx
          replace rc := rc.next hbx
          replace ro := ro.next hbx
          clear hbx
          clear kJ
          obtain ⟨u3, HU3, bx3, hbx, -⟩ := boxes1 x1 #[.slice A3 P.length xc3, .slice B3 Q.length yc3, .slice C3 0 zc3] 30
          replace lw := lw.next hbx
          replace ra := ra.next hbx
          replace rb := rb.next hbx
          replace rc := rc.next hbx
          replace ro := ro.next hbx
          have rj : R6 u3 x1.heap.size A3 B3 C3 xc3 yc3 zc3 P Q [] := ⟨bx3, rw3.next hbx, cp3⟩
          clear hbx bx3 rw3 cp3
          clear ra
          have kJ := join_any A3 B3 C3 (some (⟨wr.heap.size, 0, none⟩ : Addr)) none none xc3 yc3 zc3 1 0 0 P Q [] [M.limO] [] [] u3 rj.r rc.r rj.cap rc.cap (by (try simp) <;> omega) (by (try simp) <;> omega)
          rw [J2.out] at kJ
          dsimp only at kJ
          obtain ⟨j0, j1, j2⟩ := rj.box.c3
          obtain ⟨g0, g1, g2⟩ := rc.box.c3
          have hp := HU3.out
          go_wp2_with fail
          clear hp j0 j1 j2 g0 g1 g2
          refine (kJ).mono ?_
          rintro e x2 ⟨A4, xc4, B4, yc4, C4, zc4, rfl, rw4, cp4, hbx, -⟩
          replace lw := lw.next hbx
          replace rb := rb.next hbx
          replace rc := rc.next hbx
          replace ro := ro.next hbx
          replace rj := rj.next hbx
          clear hbx
          clear kJ
          obtain ⟨u4, HU4, bx4, hbx, -⟩ := boxes1 x2 #[.slice A4 0 xc4, .slice B4 0 yc4, .slice C4 0 zc4] 30
          replace lw := lw.next hbx
          replace rb := rb.next hbx
          replace rc := rc.next hbx
          replace ro := ro.next hbx
          replace rj := rj.next hbx
          clear hbx bx4 rw4 cp4
          clear rc
          have kJ := join_any none A2 none (some (⟨wr.heap.size, 0, none⟩ : Addr)) (some (⟨wr.heap.size + 1, 0, none⟩ : Addr)) none 0 c2 0 1 1 0 [] Q [] [M.limO] [M.limQ] [] u4 rb.r ro.r rb.cap ro.cap (by (try simp) <;> omega) (by (try simp) <;> omega)
          rw [J3.out] at kJ
          dsimp only at kJ
          obtain ⟨d0, d1, d2⟩ := rb.box.c3
          obtain ⟨h0, h1, h2⟩ := ro.box.c3
          have hp := HU4.out
          go_wp2_with fail
          clear hp d0 d1 d2 h0 h1 h2
          refine (kJ).mono ?_
          rintro e x3 ⟨A5, xc5, B5, yc5, C5, zc5, rfl, rw5, cp5, hbx, -⟩
          replace lw := lw.next hbx
          replace rb := rb.next hbx
          replace ro := ro.next hbx
          replace rj := rj.next hbx
          clear hbx
          clear kJ
          obtain ⟨u5, HU5, bx5, hbx, -⟩ := boxes1 x3 #[.slice A5 0 xc5, .slice B5 0 yc5, .slice C5 0 zc5] 30
          replace lw := lw.next hbx
          replace rb := rb.next hbx
          replace ro := ro.next hbx
          replace rj := rj.next hbx
          clear hbx bx5 rw5 cp5
          clear rb ro
          have kJ := join_any A3 B3 C3 A3 B3 C3 xc3 yc3 zc3 xc3 yc3 zc3 P Q [] P Q [] u5 rj.r rj.r rj.cap rj.cap (by (try simp) <;> omega) (by (try simp) <;> omega)
          rw [J4.out] at kJ
          dsimp only at kJ
          obtain ⟨j0, j1, j2⟩ := rj.box.c3
          have hp := HU5.out
          go_wp2_with fail
          clear hp j0 j1 j2
          refine (kJ).mono ?_
          rintro e x4 ⟨A6, xc6, B6, yc6, C6, zc6, rfl, rw6, cp6, hbx, -⟩
          replace lw := lw.next hbx
          replace rj := rj.next hbx
          clear hbx
          clear kJ
          obtain ⟨u6, HU6, bx6, hbx, -⟩ := boxes1 x4 #[.slice A6 P.length xc6, .slice B6 Q.length yc6, .slice C6 0 zc6] 30
          replace lw := lw.next hbx
          replace rj := rj.next hbx
          have rs : R6 u6 x4.heap.size A6 B6 C6 xc6 yc6 zc6 P Q [] := ⟨bx6, rw6.next hbx, cp6⟩
          clear hbx bx6 rw6 cp6
          have q1 : ((P.length : Int) == 4096) = true := by rw [Hlp.out]; rfl
          have q2 : ((Q.length : Int) == 1024) = true := by rw [Hll.out]; rfl
          have kE := same16_any A3 B3 C3 A6 B6 C6 xc3 yc3 zc3 xc6 yc6 zc6 P Q [] P Q [] u6 rj.r rs.r (by (try simp) <;> omega)
          rw [decide_eq_true ⟨rfl, rfl, rfl⟩] at kE
          obtain ⟨j0, j1, j2⟩ := rj.box.c3
          obtain ⟨k0, k1, k2⟩ := rs.box.c3
          have hp := HU6.out
          go_wp2_with fail
          clear hp j0 j1 j2 k0 k1 k2
          refine (kE).mono ?_
          rintro e x5 ⟨rfl, hbx⟩
          replace lw := lw.next hbx
          replace rj := rj.next hbx
          replace rs := rs.next hbx
          clear hbx
          clear kE
          go_wp2_with fail
          refine lw.known.mono ?_
          rintro e x9 ⟨rfl, hb9⟩
          go_wp2_with fail
          go_ret
          exact ⟨rfl, hb9⟩
end Go.Proofs.YtciolgmljpamlaaGreatDoor
end
