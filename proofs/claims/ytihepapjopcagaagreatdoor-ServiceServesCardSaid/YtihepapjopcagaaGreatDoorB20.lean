/- A bundle of texts: Kn14, Law14b, Post, Open, TerOpen, StOpen, StOpen2, Tab2. -/
import Derived.Test.YtihepapjopcagaaGreatDoorB19
import Derived.Below
import Derived.ChangeSame
import Derived.ProofKit
import Derived.OpenShut
import Derived.Test.YtihepapjopcagaaGreatDoorB02
import Derived.Deep.Slices
import Derived.Deep.Fields
import Derived.Test.YtihepapjopcagaaGreatDoorB03
import Derived.Test.YtihepapjopcagaaGreatDoorB11
import Derived.Lib.LaidTab
/- The law package of layer 14: the walk of known. -/
section
namespace Go.Proofs.YtihepapjopcagaaGreatDoor
open Go Go.RowKit
set_option maxRecDepth 100000

set_option maxHeartbeats 32000000 in
theorem known14_any (w : World) (ht : Tab w) (h64 : Tab64 w) : Calls Tryz.prog 9 #[] w fun e w' => e = .returned (.bool true) ∧ Below w.heap.size w w' := by
  have kF : Calls Tryz.prog 33 #[.int .i64 9, .int .i64 1, .int .i64 0, .int .i64 10] w (fun e w' => ∃ GA gc PA pc, e = .returned (tv 9 1 GA PA 9 gc 9 pc) ∧ Sl 1 icell w' w'.heap.size GA M.zG ∧ Sl 1 icell w' w'.heap.size PA M.zP ∧ Below w.heap.size w w') := flat_ok 9 1 0 10 9 w (Lib.hid rfl) (by omega)
  go_enter Tryz.func9, Tryz.ntmps9
  go_wp2_with fail
  refine kF.mono ?_
  rintro e w1 ⟨GA, gc, PA, pc, rfl, hG, hP, hb1⟩
  obtain ⟨V, HV, x0, hbV, -⟩ := boxes1 w1 #[.int .i64 9, .int .i64 1, .slice GA 9 gc, .slice PA 9 pc] 30
  have BV := after_ hb1 hbV
  have kw : KW14 w V w1.heap.size GA PA gc pc := ⟨x0, (hG.below hbV).more hbV.size, (hP.below hbV).more hbV.size, ht.kept BV, h64.kept BV, BV⟩
  have hV := HV.out
  go_upto_region 2 with fail
  clear hV
  go_cut [43] (fun v wx => v = .bool false ∧ KW14 w wx w1.heap.size GA PA gc pc)
  case first =>
    have k0 := kw
    replace kw := kw.next (Below.refl _ _).drew
    have h0 := kw.held
    have h1 := k0.held
    go_region_held3 (fun w' => w'.cell? ⟨w1.heap.size, 0, none⟩ = some (.int .i64 9) ∧ w'.cell? ⟨w1.heap.size, 1, none⟩ = some (.int .i64 1) ∧ w'.cell? ⟨w1.heap.size, 2, none⟩ = some (.slice GA 9 gc) ∧ w'.cell? ⟨w1.heap.size, 3, none⟩ = some (.slice PA 9 pc)) (first | with_reducible exact ka.held | with_reducible exact (ka.next (alloc_below _ _)).held | with_reducible exact kw.held | with_reducible exact (kw.next (alloc_below _ _)).held | with_reducible exact h0 | with_reducible exact h1)
      (first
        | (go_at_call 34; (first | (have _t := tok81; refine (hA _ _ _ ka hSa Sl.nil_).mono ?_; rintro e wb ⟨rfl, hbb⟩; replace kw := ka.next hbb; clear hA ka hba hbb hSa tok81) | (have _t := bx; refine (hA _ _ _ ka hSa (Sl.of_box bx rfl)).mono ?_; rintro e wb ⟨rfl, hbb⟩; replace kw := ka.next hbb; clear hA ka hba hbb hSa bx) | (refine (hA _ _ _ (ka.next (alloc_below _ _)) ((hSa.below (alloc_below _ _)).more (alloc_below _ _).size) (Sl.of_box (Box.new _ _ _) rfl)).mono ?_; rintro e wb ⟨rfl, hbb⟩; replace kw := (ka.next (alloc_below _ _)).next hbb; clear hA ka hba hbb hSa)))
        | (go_at_call_has 35 (Value.int .i64 81); ((with_reducible refine (madeK 1 4 81 20 M.s81 rfl _).mono ?_); rintro e wa ⟨Aa, ca, rfl, hSa, hba⟩; (first | (with_reducible have ka := kw.next hba) | (have ka := (kw.next (alloc_below _ _)).next hba; have bx := (Box.new _ _ _).below hba)); have hA := fun (W : World) (LA : Option Addr) (lc : Nat) (k : KW14 w W w1.heap.size GA PA gc pc) (hS : Sl 1 icell W W.heap.size Aa M.s81.pat) (hl : Sl 1 icell W W.heap.size LA []) => k.area M.s81 [] M.o81 M.ar81 (A := Aa) (c := ca) (lc := lc) hS hl (n := 0) rfl; have tok81 : True := trivial))
        | (go_at_call_has 35 (Value.int .i64 82); ((with_reducible refine (madeK 1 4 82 20 M.s82 rfl _).mono ?_); rintro e wa ⟨Aa, ca, rfl, hSa, hba⟩; (first | (with_reducible have ka := kw.next hba) | (have ka := (kw.next (alloc_below _ _)).next hba; have bx := (Box.new _ _ _).below hba)); have hA := fun (W : World) (LA : Option Addr) (lc : Nat) (k : KW14 w W w1.heap.size GA PA gc pc) (hS : Sl 1 icell W W.heap.size Aa M.s82.pat) (hl : Sl 1 icell W W.heap.size LA [3, 4, 5]) => k.area M.s82 [3, 4, 5] M.o82 M.ar82 (A := Aa) (c := ca) (lc := lc) hS hl (n := 3) rfl))
        | (go_at_call_has 35 (Value.int .i64 94); ((with_reducible refine (madeK 1 4 94 20 M.s94 rfl _).mono ?_); rintro e wa ⟨Aa, ca, rfl, hSa, hba⟩; (first | (with_reducible have ka := kw.next hba) | (have ka := (kw.next (alloc_below _ _)).next hba; have bx := (Box.new _ _ _).below hba)); have hA := fun (W : World) (LA : Option Addr) (lc : Nat) (k : KW14 w W w1.heap.size GA PA gc pc) (hS : Sl 1 icell W W.heap.size Aa M.s94.pat) (hl : Sl 1 icell W W.heap.size LA [2, 3, 4, 5, 6]) => k.area M.s94 [2, 3, 4, 5, 6] M.o94 M.ar94 (A := Aa) (c := ca) (lc := lc) hS hl (n := 5) rfl))
        | (go_at_call_has 35 (Value.int .i64 101); ((with_reducible refine (madeK 1 4 101 20 M.s101 rfl _).mono ?_); rintro e wa ⟨Aa, ca, rfl, hSa, hba⟩; (first | (with_reducible have ka := kw.next hba) | (have ka := (kw.next (alloc_below _ _)).next hba; have bx := (Box.new _ _ _).below hba)); have hA := fun (W : World) (LA : Option Addr) (lc : Nat) (k : KW14 w W w1.heap.size GA PA gc pc) (hS : Sl 1 icell W W.heap.size Aa M.s101.pat) (hl : Sl 1 icell W W.heap.size LA [1, 2, 3, 4, 5, 6, 7]) => k.area M.s101 [1, 2, 3, 4, 5, 6, 7] M.o101 M.ar101 (A := Aa) (c := ca) (lc := lc) hS hl (n := 7) rfl)))
    all_goals
      go_wp2_with fail
      go_meet
      case rel => exact ⟨rfl, kw⟩
  case rest =>
    obtain ⟨rfl, kw⟩ := hcut
    have k0 := kw
    replace kw := kw.next (Below.refl _ _).drew
    have h0 := kw.held
    have h1 := k0.held
    have ka := kw
    go_wp2_with fail
    go_region_held3 (fun w' => w'.cell? ⟨w1.heap.size, 0, none⟩ = some (.int .i64 9) ∧ w'.cell? ⟨w1.heap.size, 1, none⟩ = some (.int .i64 1) ∧ w'.cell? ⟨w1.heap.size, 2, none⟩ = some (.slice GA 9 gc) ∧ w'.cell? ⟨w1.heap.size, 3, none⟩ = some (.slice PA 9 pc)) (first | with_reducible exact ka.held | with_reducible exact (ka.next (alloc_below _ _)).held | with_reducible exact kw.held | with_reducible exact (kw.next (alloc_below _ _)).held | with_reducible exact h0 | with_reducible exact h1)
      (first
        | (go_at_call 35; ((with_reducible refine (madeK 1 4 101 20 M.s101 rfl _).mono ?_); rintro e wa ⟨Aa, ca, rfl, hSa, hba⟩; replace ka := kw.next hba))
        | (go_at_call 13; (refine (ka.people M.s101 70 M.o101 M.pe101 hSa).mono ?_; rintro e wb ⟨rfl, hbb⟩; replace ka := ka.next hbb)))
    replace kw := ka
    clear h0 h1 k0 ka hba hbb hSa
    go_wp2_with fail
    have k0 := kw
    replace kw := kw.next (Below.refl _ _).drew
    have h0 := kw.held
    have h1 := k0.held
    have ka := kw
    go_region_held3 (fun w' => w'.cell? ⟨w1.heap.size, 0, none⟩ = some (.int .i64 9) ∧ w'.cell? ⟨w1.heap.size, 1, none⟩ = some (.int .i64 1) ∧ w'.cell? ⟨w1.heap.size, 2, none⟩ = some (.slice GA 9 gc) ∧ w'.cell? ⟨w1.heap.size, 3, none⟩ = some (.slice PA 9 pc)) (first | with_reducible exact ka.held | with_reducible exact (ka.next (alloc_below _ _)).held | with_reducible exact kw.held | with_reducible exact (kw.next (alloc_below _ _)).held | with_reducible exact h0 | with_reducible exact h1)
      (first
        | (go_at_call 35; ((with_reducible refine (madeK 1 4 91 7 M.s91 rfl _).mono ?_); rintro e wc ⟨Ac, cc, rfl, hSc, hbc⟩; replace ka := kw.next hbc))
        | (go_at_call 13; (refine (ka.people M.s91 70 M.o91 M.pe91 hSc).mono ?_; rintro e wd ⟨rfl, hbd⟩; replace ka := ka.next hbd)))
    replace kw := ka
    clear h0 h1 k0 ka hbc hbd hSc
    go_wp2_with fail
    refine (madeK 1 4 94 20 M.s94 rfl _).mono ?_
    rintro e w5 ⟨A5, c5, rfl, hS5, hb5⟩
    replace kw := kw.next hb5
    go_wp2_with fail
    refine (madeK 2 6 94 20 M.a94 rfl _).mono ?_
    rintro e w6 ⟨A6, c6, rfl, hS6, hb6⟩
    replace kw := kw.next hb6
    obtain ⟨U, HU, y5, y6, hbU, -⟩ := boxes2 w6 (stc M.s94 A5 c5) 34 (stc M.a94 A6 c6) 34
    replace kw := kw.next hbU
    replace hS5 := (((hS5.below hb6).more hb6.size).below hbU).more hbU.size
    replace hS6 := (hS6.below hbU).more hbU.size
    clear hb5 hb6 hbU
    obtain ⟨t0, t1, t2, t3⟩ := kw.held
    obtain ⟨a0, a1, a2, a3, a4, a5, a6, a7⟩ := y5.c8
    obtain ⟨b0, b1, b2, b3, b4, b5, b6, b7⟩ := y6.c8
    have hU := HU.out
    go_wp2_with fail
    clear hU
    have kO := overlap_ok 9 1 GA PA gc pc M.zG M.zP M.s94 A5 c5 M.a94 A6 c6 U kw.tab kw.g kw.p hS5 hS6 M.o94 M.oa94
    rw [M.ov94] at kO
    refine kO.mono ?_
    rintro e w7 ⟨OA, oc, rfl, hSO, hb7⟩
    clear kO t0 t1 t2 t3 a0 a1 a2 a3 a4 a5 a6 a7 b0 b1 b2 b3 b4 b5 b6 b7
    replace kw := kw.next hb7
    replace y5 := y5.below hb7
    replace y6 := y6.below hb7
    replace hS5 := (hS5.below hb7).more hb7.size
    replace hS6 := (hS6.below hb7).more hb7.size
    clear hb7
    obtain ⟨X, HX, z0, hbX, -⟩ := boxes1 w7 #[.int .i64 M.s94.id, .int .i64 M.s94.x, .int .i64 M.s94.y, .int .i64 M.s94.pw, .int .i64 M.s94.h, .slice A5 M.s94.pat.length c5, .int .i64 M.s94.band, .int .i64 M.s94.ch, .int .i64 M.a94.id, .int .i64 M.a94.x, .int .i64 M.a94.y, .int .i64 M.a94.pw, .int .i64 M.a94.h, .slice A6 M.a94.pat.length c6, .int .i64 M.a94.band, .int .i64 M.a94.ch] 34
    obtain ⟨t0, t1, t2, t3⟩ := kw.held
    obtain ⟨a0, a1, a2, a3, a4, a5, a6, a7⟩ := y5.c8
    obtain ⟨b0, b1, b2, b3, b4, b5, b6, b7⟩ := y6.c8
    have hX := HX.out
    go_wp2_with fail
    clear hX t0 t1 t2 t3 a0 a1 a2 a3 a4 a5 a6 a7 b0 b1 b2 b3 b4 b5 b6 b7
    replace kw := kw.next hbX
    replace y5 := y5.below hbX
    replace y6 := y6.below hbX
    replace hS5 := (hS5.below hbX).more hbX.size
    replace hS6 := (hS6.below hbX).more hbX.size
    replace hSO := (hSO.below hbX).more hbX.size
    have kR := reach_ok 9 1 GA PA gc pc M.zG M.zP (some ⟨w7.heap.size, 0, none⟩) 2 [⟨M.s94, A5, c5⟩, ⟨M.a94, A6, c6⟩] X kw.tab kw.g kw.p (Sl.of_box z0 rfl) (pats2 hS5 hS6) (by simp) M.tvz (okE2 M.o94 M.oa94)
    rw [show ([⟨M.s94, A5, c5⟩, ⟨M.a94, A6, c6⟩] : List SE).map (·.s) = [M.s94, M.a94] from rfl, M.re94] at kR
    refine kR.mono ?_
    rintro e w8 ⟨rfl, hb8⟩
    replace kw := kw.next hb8
    replace y5 := y5.below hb8
    replace y6 := y6.below hb8
    replace hS5 := (hS5.below hb8).more hb8.size
    replace hS6 := (hS6.below hb8).more hb8.size
    replace hSO := (hSO.below hb8).more hb8.size
    clear kR z0 hbX hb8 HX
    obtain ⟨Y, HY, z0, hbY, -⟩ := boxes1 w8 #[.int .i64 M.s94.id, .int .i64 M.s94.x, .int .i64 M.s94.y, .int .i64 M.s94.pw, .int .i64 M.s94.h, .slice A5 M.s94.pat.length c5, .int .i64 M.s94.band, .int .i64 M.s94.ch, .int .i64 M.a94.id, .int .i64 M.a94.x, .int .i64 M.a94.y, .int .i64 M.a94.pw, .int .i64 M.a94.h, .slice A6 M.a94.pat.length c6, .int .i64 M.a94.band, .int .i64 M.a94.ch] 34
    obtain ⟨t0, t1, t2, t3⟩ := kw.held
    obtain ⟨a0, a1, a2, a3, a4, a5, a6, a7⟩ := y5.c8
    obtain ⟨b0, b1, b2, b3, b4, b5, b6, b7⟩ := y6.c8
    have hY := HY.out
    go_wp2_with fail
    clear hY t0 t1 t2 t3 a0 a1 a2 a3 a4 a5 a6 a7 b0 b1 b2 b3 b4 b5 b6 b7
    replace kw := kw.next hbY
    replace y5 := y5.below hbY
    replace y6 := y6.below hbY
    replace hS5 := (hS5.below hbY).more hbY.size
    replace hS6 := (hS6.below hbY).more hbY.size
    replace hSO := (hSO.below hbY).more hbY.size
    have kS := served_ok 9 1 GA PA gc pc M.zG M.zP (some ⟨w8.heap.size, 0, none⟩) 2 [⟨M.s94, A5, c5⟩, ⟨M.a94, A6, c6⟩] 2 0 Y kw.tab kw.g kw.p (Sl.of_box z0 rfl) (pats2 hS5 hS6) (by simp) (okE2 M.o94 M.oa94) M.has2
    rw [show ([⟨M.s94, A5, c5⟩, ⟨M.a94, A6, c6⟩] : List SE).map (·.s) = [M.s94, M.a94] from rfl, M.sv94] at kS
    refine kS.mono ?_
    rintro e w9 ⟨rfl, hb9⟩
    replace kw := kw.next hb9
    replace hSO := (hSO.below hb9).more hb9.size
    clear kS z0 hbY hb9 HY y5 y6 hS5 hS6
    obtain ⟨Z, HZ, u0, hbZ, -⟩ := boxes1 w9 (bsc 2) 60
    have hZ := HZ.out
    have th0 := threshold_no 0 Z (by decide)
    have th3 : Calls Tryz.prog 8 #[.int .i64 3] Z fun e w' => e = .returned (.tuple #[.int .i64 82, .int .i64 0]) ∧ Z = w' := threshold_ok 3 Z (by decide)
    replace kw := kw.next hbZ
    replace hSO := (hSO.below hbZ).more hbZ.size
    go_wp2_with fail
    refine th0.mono ?_
    rintro e w10 ⟨rfl, rfl⟩
    go_wp2_with fail
    refine th3.mono ?_
    rintro e w10 ⟨rfl, rfl⟩
    clear hZ th0 th3
    obtain ⟨V2, HV2, v0, hbV2, -⟩ := boxes1 Z #[.int .i64 4, .int .i64 5, .int .i64 6] 3
    have kE := equal14_any OA (some ⟨Z.heap.size, 0, none⟩) oc 3 [4, 5, 6] [4, 5, 6] V2 ((hSO.below hbV2).more hbV2.size) (Sl.of_box v0 rfl) (by simp)
    rw [decide_eq_true rfl] at kE
    have hV2 := HV2.out
    go_wp2_with fail
    clear hV2
    refine kE.mono ?_
    rintro e w11 ⟨rfl, hb11⟩
    have u1 := (u0.below hbV2).below hb11
    replace kw := (kw.next hbV2).next hb11
    obtain ⟨e0, e1, e2, e3, e4, e5, e6, e7⟩ := u1.w
    go_wp2_with fail
    refine (bsText1 w11 kw.tab64).mono ?_
    rintro e w12 ⟨rfl, hb12⟩
    go_wp2_with fail
    go_ret
    exact ⟨rfl, (kw.next hb12).below⟩
end Go.Proofs.YtihepapjopcagaaGreatDoor
end

/- Layer 14: the document's Allowed, the program's People on errors; what the laws hold. -/
section
namespace Go.Proofs.YtihepapjopcagaaGreatDoor
open Go Go.RowKit
set_option maxRecDepth 100000

set_option maxHeartbeats 4000000 in
theorem rAllowed14_any (W H : Int) (GA PA : Option Addr) (gc pc : Nat) (G P : List Int) (s : St) (A : Option Addr) (c : Nat) (w : World) (hg : Sl 1 icell w w.heap.size GA G) (hp : Sl 1 icell w w.heap.size PA P) (hS : Sl 1 icell w w.heap.size A s.pat)
    (hgl : G.length ≤ 9223372036854775806) (hl : s.pat.length ≤ 9223372036854775806) :
    Calls Tryz.prog 17 #[tv W H GA PA G.length gc P.length pc, stv s A c] w fun e w' => e = .returned (.bool (M.okS W H G P s)) ∧ Below w.heap.size w w' := by
  obtain ⟨V, HW, x0, x1, hB, -⟩ := boxes2 w #[.int .i64 W, .int .i64 H, .slice GA G.length gc, .slice PA P.length pc] 30 (stc s A c) 34
  have hg1 := (hg.below hB).more hB.size
  have hp1 := (hp.below hB).more hB.size
  have hS1 := (hS.below hB).more hB.size
  obtain ⟨c0, c1, c2, c3⟩ := x0.c4
  obtain ⟨b0, b1, b2, b3, b4, b5, b6, b7⟩ := x1.c8
  have l0 := x0.lt
  have l1 := x1.lt
  have kA : Hid (∀ w1, Sl 1 icell w1 w1.heap.size GA G → Sl 1 icell w1 w1.heap.size PA P → Sl 1 icell w1 w1.heap.size A s.pat → Calls Tryz.prog 15 #[tv W H GA PA G.length gc P.length pc, stv s A c, cv s.x s.y] w1 fun e w' => e = .returned (.bool (M.okS W H G P s)) ∧ Below w1.heap.size w1 w') := Lib.hid (fun w1 h1 h2 h3 => rAllowed_any W H GA PA gc pc G P s A c s.x s.y w1 h1 h2 h3 hgl hl)
  go_enter Tryz.func17, Tryz.ntmps17
  go_wp2_with fail
  rw [HW.out]
  refine wp_region_kept V.heap.size V (by kernel_rfl) (by kernel_rfl) (Below.refl _ _) ?_
  repeat (go_big_quiet_step (first | (go_at_call 25; exact Kept.calls (Nat.le_refl _) (rCell_any s A c _)) | (go_at_call 15; exact Kept.calls (Nat.le_refl _) (kA.out _ hg1.kept hp1.kept hS1.kept))))
  refine wpQuiet_nil ?_
  rintro w5 ⟨⟨_, hb5⟩, rfl⟩
  go_wp2_with fail
  go_ret
  exact ⟨rfl, after_ hB hb5⟩

set_option maxHeartbeats 4000000 in
theorem people_no (W H : Int) (GA PA : Option Addr) (gc pc : Nat) (G P : List Int) (s : St) (A : Option Addr) (c : Nat) (w : World) (hg : Sl 1 icell w w.heap.size GA G) (hp : Sl 1 icell w w.heap.size PA P) (hS : Sl 1 icell w w.heap.size A s.pat)
    (hgl : G.length ≤ 9223372036854775806) (hpl' : P.length ≤ 9223372036854775806) (hpl : s.pat.length ≤ 1000) (hok : M.okS W H G P s = false) :
    Calls Tryz.prog 13 #[tv W H GA PA G.length gc P.length pc, stv s A c] w fun e w' => e = .returned (.tuple #[.int .i64 0, .int .i64 2]) ∧ Below w.heap.size w w' := by
  obtain ⟨V, HW, x0, x1, hB, -⟩ := boxes2 w #[.int .i64 W, .int .i64 H, .slice GA G.length gc, .slice PA P.length pc] 30 (stc s A c) 34
  obtain ⟨c0, c1, c2, c3⟩ := x0.c4
  obtain ⟨b0, b1, b2, b3, b4, b5, b6, b7⟩ := x1.c8
  have hV := HW.out
  go_enter Tryz.func13, Tryz.ntmps13
  go_wp2_with fail
  clear hV c0 c1 c2 c3 b0 b1 b2 b3 b4 b5 b6 b7
  refine (area_no W H GA PA gc pc G P s A c V ((hg.below hB).more hB.size) ((hp.below hB).more hB.size) ((hS.below hB).more hB.size) hgl hpl' hpl hok).mono ?_
  rintro e w1 ⟨rfl, hb1⟩
  go_wp2_with fail
  go_ret2
  exact ⟨rfl, after_ hB hb1⟩

/-- What the laws hold: the terrain's box, its lists, the tables. -/
structure LW (w0 w : World) (b : Nat) (W H : Int) (GA PA : Option Addr) (gc pc : Nat) (G P : List Int) : Prop where
  t : Box w b #[.int .i64 W, .int .i64 H, .slice GA G.length gc, .slice PA P.length pc] 30
  g : Sl 1 icell w w.heap.size GA G
  p : Sl 1 icell w w.heap.size PA P
  tab : Tab w
  tab64 : Tab64 w
  below : Below w0.heap.size w0 w
theorem LW.next {w0 w w' : World} {b : Nat} {W H : Int} {GA PA : Option Addr} {gc pc : Nat} {G P : List Int} (h : LW w0 w b W H GA PA gc pc G P) (hb : Below w.heap.size w w') : LW w0 w' b W H GA PA gc pc G P :=
  ⟨h.t.below hb, (h.g.below hb).more hb.size, (h.p.below hb).more hb.size, h.tab.kept hb, h.tab64.kept hb, after_ h.below hb⟩
/-- A station's box and its pattern. -/
structure SW (w : World) (b : Nat) (s : St) (A : Option Addr) (c : Nat) : Prop where
  box : Box w b (stc s A c) 34
  p : Sl 1 icell w w.heap.size A s.pat
theorem SW.next {w w' : World} {b : Nat} {s : St} {A : Option Addr} {c : Nat} (h : SW w b s A c) (hb : Below w.heap.size w w') : SW w' b s A c := ⟨h.box.below hb, (h.p.below hb).more hb.size⟩
theorem LW.known {w0 w : World} {b : Nat} {W H : Int} {GA PA : Option Addr} {gc pc : Nat} {G P : List Int} (h : LW w0 w b W H GA PA gc pc G P) : Calls Tryz.prog 9 #[] w fun e w' => e = .returned (.bool true) ∧ Below w0.heap.size w0 w' :=
  (known14_any w h.tab h.tab64).mono fun _ _ ⟨he, hb⟩ => ⟨he, after_ h.below hb⟩

set_option maxHeartbeats 8000000 in
theorem serviceThresholds_walk (band : Int) (w : World) (ht : Tab w) (h64 : Tab64 w) : Calls Tryz.prog 3 #[.int .i64 band] w fun e w' => e = .returned (.bool true) ∧ Below w.heap.size w w' := by
  have kn := known14_any w ht h64
  by_cases h : band = 1 ∨ band = 2 ∨ band = 3
  · have q1 : decide (band < 1) = false := decide_eq_false (by omega)
    have q2 : decide (3 < band) = false := decide_eq_false (by omega)
    have k1 := threshold_ok band w h
    have k2 := rThr_ok band w h
    generalize M.thr band = z at k1 k2
    go_enter Tryz.func3, Tryz.ntmps3
    go_wp2_with fail
    refine k1.mono ?_
    rintro e w1 ⟨rfl, rfl⟩
    go_wp2_with fail
    refine k2.mono ?_
    rintro e w2 ⟨rfl, hb2⟩
    go_wp2_with fail
    refine (known14_any w2 (ht.kept hb2) (h64.kept hb2)).mono ?_
    rintro e w3 ⟨rfl, hb3⟩
    go_wp2_with fail
    go_ret
    exact ⟨rfl, after_ hb2 hb3⟩
  · have k1 := threshold_no band w h
    by_cases h1 : band < 1
    · have q1 : decide (band < 1) = true := decide_eq_true h1
      go_enter Tryz.func3, Tryz.ntmps3
      go_wp2_with fail
      refine k1.mono ?_
      rintro e w1 ⟨rfl, rfl⟩
      go_wp2_with fail
      refine kn.mono ?_
      rintro e w3 ⟨rfl, hb3⟩
      go_wp2_with fail
      go_ret
      exact ⟨rfl, hb3⟩
    · have q1 : decide (band < 1) = false := decide_eq_false h1
      have q2 : decide (3 < band) = true := decide_eq_true (by omega)
      go_enter Tryz.func3, Tryz.ntmps3
      go_wp2_with fail
      refine k1.mono ?_
      rintro e w1 ⟨rfl, rfl⟩
      go_wp2_with fail
      refine kn.mono ?_
      rintro e w3 ⟨rfl, hb3⟩
      go_wp2_with fail
      go_ret
      exact ⟨rfl, hb3⟩
end Go.Proofs.YtihepapjopcagaaGreatDoor
end

/- The step from a walk that keeps everything that was there to the row's post. -/
section
namespace Go.Proofs.YtihepapjopcagaaGreatDoor
open Go.ChangeShapes Go.WideShapes Go.RowKit

section
variable {H : Type} {enc : TypeId × Value → H} {P : Program}
theorem post_of_kept {f : Func} {s : ChangeSpec} {apart fresh handsOn again : Bool} {W W' : World} {args : Array Value} {v : Value} {ds gs : List (DataW H)} {before pa pv : List MemPlace}
    (hW : DataW.Whole enc P f.params.toList s.vars apart W args.toList ds gs before)
    (hres : ∀ (b : Nat) (sp : Nat → Bool) (hd : Bool), DataW.TrodAll enc P W' b sp hd f.resultTypes.toList (v.resultList f.resultTypes.size) (s.fn H (ds ++ gs)).results [])
    (hargs : ∀ sp : Nat → Bool, (∀ p ∈ before, sp p.block = true) → DataW.TrodAll enc P W' 0 sp true f.params.toList args.toList (s.fn H (ds ++ gs)).args pa)
    (hvars : ∀ sp : Nat → Bool, (∀ p ∈ before, sp p.block = true) → DataW.TrodVars enc P W' sp s.vars (s.fn H (ds ++ gs)).vars pv)
    (hps : before = pa ++ pv) (hb : Below W.heap.size W W')
    (hok : ∀ (j : Nat) (t : TypeId) (r : Value), f.resultTypes[j]? = some t → (v.resultList f.resultTypes.size)[j]? = some r → Value.okWide P W' .any 0 t r) :
    s.post enc P f apart fresh handsOn again W args v W' := by
  have hlt : ∀ p ∈ before, p.block < W.heap.size := fun p hp => hW.lt p hp
  have hold : ∀ p ∈ before, (fun b => decide (b < W.heap.size)) p.block = true := fun p hp => by simpa using hlt p hp
  refine ⟨ds, gs, before, [], pa, pv, hW, hres _ _ _, hargs _ hold, hvars _ hold, World.keptBut_mono (fun p hp => ⟨hp, ?_⟩) (hb.frame (· ∈ before)), fun _ => ?_⟩
  · rw [hps, List.mem_append] at hp
    exact Or.inr hp
  · obtain ⟨_, _, _, _, _, hz, hn⟩ := hW
    refine ⟨hok, _, _, ([] ++ pa) ++ pv, ⟨[] ++ pa, pv, trodAll_append (hargs _ (fun _ _ => rfl)) (hres _ _ _), hvars _ (fun _ _ => rfl), rfl, ?_, ?_⟩, ?_⟩
    · intro b off hp
      have hin : MemPlace.cell b off ∈ before := by rw [hps]; simpa using hp
      rw [hb.frozen (hlt _ hin)]
      exact hz b off hin
    · intro ha
      have := hn ha
      rw [hps] at this
      simpa using this
    · intro p hp _
      rw [hps]
      simpa using hp

theorem trodAll_kept (hl : laidOutB P = true) {W W' : World} {sp : Nat → Bool} (hb : Below W.heap.size W W') : ∀ {ts : List TypeId} {vs : List Value} {ds : List (DataW H)} {ps : List MemPlace},
    (ts.all fun t => P.readableRec t && decide (t < P.types.size)) = true → DataW.TrodAll enc P W 0 (fun _ => true) true ts vs ds ps → (∀ p ∈ ps, p.block < W.heap.size) → (∀ p ∈ ps, sp p.block = true) → DataW.TrodAll enc P W' 0 sp true ts vs ds ps
  | [], vs, ds, ps, _, h, _, _ => by
    cases vs <;> cases ds <;> simp [DataW.TrodAll] at h ⊢
    exact h
  | t :: ts, vs, ds, ps, ht, h, hlt, hs => by
    obtain ⟨v, vs', d, ds', p, q, rfl, rfl, rfl, h1, h2⟩ := trodAll_cons h
    simp only [List.all_cons, Bool.and_eq_true, decide_eq_true_eq] at ht
    exact trodAll_cons_mk (WideElems.Trod_stays hl ht.1.1 ht.1.2 h1 (fun x hx => hb.same (hlt x (by simp [hx]))) (fun x hx => hs x (by simp [hx])))
      (trodAll_kept hl hb (by simpa using ht.2) h2 (fun x hx => hlt x (by simp [hx])) (fun x hx => hs x (by simp [hx])))

/-- A law that returned true and kept all that was there meets its row's post. -/
theorem law_post {f : Func} {s : ChangeSpec} {apart fresh handsOn again : Bool} {W W' : World} {args : Array Value} {ds gs : List (DataW H)} {before : List MemPlace} {tb : TypeId} (hl : laidOutB P = true)
    (hp : (f.params.toList.all fun t => P.readableRec t && decide (t < P.types.size)) = true) (hsv : s.vars = []) (hfn : s.fn H (ds ++ gs) = { results := [.lit (.bool true)], args := ds }) (hrt : f.resultTypes = #[tb]) (hub : P.underlying tb = some .bool)
    (hW : DataW.Whole enc P f.params.toList s.vars apart W args.toList ds gs before) (hb : Below W.heap.size W W') : s.post enc P f apart fresh handsOn again W args (.bool true) W' := by
  have hW0 := hW
  obtain ⟨p, q, hA, hV, rfl, _, _⟩ := hW
  have hlt := hW0.lt
  rw [hsv] at hV
  obtain ⟨rfl, rfl⟩ := trodVars_none hV
  refine post_of_kept (pa := p) (pv := []) hW0 ?_ ?_ ?_ rfl hb (ok_one hrt rfl (okWide_bool_mk hub _))
  · intro b sp hd
    rw [hfn, hrt]
    exact trodAll_cons_mk (shut_bool hub _) trodAll_mk0
  · intro sp hsp
    rw [hfn]
    exact trodAll_kept hl hb hp hA (fun x hx => hlt x (by simp [hx])) (fun x hx => hsp x (by simp [hx]))
  · intro sp hsp
    rw [hfn, hsv]
    rfl
end
end Go.Proofs.YtihepapjopcagaaGreatDoor
end

/- Arguments opened: slices as lists, structs of ints. -/
section
namespace Go.Proofs.YtihepapjopcagaaGreatDoor
open Go.ChangeShapes Go.WideShapes Go.RowKit Go.Deep

theorem list_of_forall {α : Type} {R : Nat → α → Prop} : ∀ (n : Nat), (∀ k, k < n → ∃ y, R k y) → ∃ xs : List α, xs.length = n ∧ ∀ k (h : k < xs.length), R k xs[k]
  | 0, _ => ⟨[], rfl, fun k h => absurd h (by simp)⟩
  | n + 1, h => by
    obtain ⟨xs, hl, hx⟩ := list_of_forall (R := R) n (fun k hk => h k (by omega))
    obtain ⟨y, hy⟩ := h n (by omega)
    refine ⟨xs ++ [y], by simp [hl], fun k hk => ?_⟩
    rw [List.getElem_append]
    split
    · exact hx k _
    · have : k = n := by simp at hk; omega
      subst this
      simpa using hy

theorem block_of_cell {w : World} {p : Addr} {v : Value} (h : w.cell? p = some v) : p.block < w.heap.size := by
  apply Nat.lt_of_not_le; intro hle
  simp [World.cell?, Array.getElem?_eq_none hle] at h

/-- Every field is an int of one cell. -/
def allInts (P : Program) (fs : Array Field) : Bool := fs.all fun f => match P.underlying f.type with | some (.int .i64) => true | _ => false

section
variable {H : Type} {enc : TypeId × Value → H} {P : Program} {w : World} {base : Nat} {spare : Nat → Bool} {held : Bool}
theorem trod_ints {t : TypeId} {fs : Array Field} {fuel : Nat} {cs : List Value} {x : DataW H × List MemPlace} (hs : P.underlying t = some (.struct fs)) (hone : oneCellFields P fs = true) (hC : P.cellsOf t = fs.size) (hint : allInts P fs = true)
    (h : DataW.trod enc P w base spare held fuel t cs = some x) : ∃ ns : List Int, cs = ns.map (Value.int .i64) ∧ ns.length = fs.size ∧ ∀ n ∈ ns, (Lit.int .i64 n).wf = true := by
  obtain ⟨ys, n, _, _, hlen, hyl, hf⟩ := DataW.trod_struct hs h
  have key : ∀ j, j < fs.size → ∃ m : Int, cs[j]? = some (.int .i64 m) ∧ (Lit.int .i64 m).wf = true := by
    intro j hj
    obtain ⟨ho, hk⟩ := hone_of hone j fs[j] (by simp [hj])
    have h1 := hf j fs[j] (by simp [hj])
    rw [ho, hk] at h1
    have hjl : j < cs.length := by omega
    have e1 : (cs.drop j).take 1 = [cs[j]] := by rw [List.drop_eq_getElem_cons hjl]; rfl
    rw [e1, List.getElem?_eq_getElem (by omega)] at h1
    have hi : P.underlying fs[j].type = some (.int .i64) := by
      have := Array.all_eq_true.1 hint j hj
      revert this
      split
      · intro; assumption
      · intro h; cases h
    obtain ⟨m, e2, _, hw⟩ := DataW.trod_int hi h1
    refine ⟨m, ?_, hw⟩
    rw [List.getElem?_eq_getElem hjl]
    exact congrArg some (by simpa using e2)
  obtain ⟨ns, hl, hn⟩ := list_of_forall (R := fun j m => cs[j]? = some (.int .i64 m) ∧ (Lit.int .i64 m).wf = true) fs.size key
  refine ⟨ns, ?_, hl, fun m hm => ?_⟩
  · apply List.ext_getElem?
    intro i
    by_cases hi : i < ns.length
    · rw [(hn i hi).1]; simp [hi]
    · rw [List.getElem?_eq_none (by omega), List.getElem?_eq_none (by simp; omega)]
  · obtain ⟨i, hi, rfl⟩ := List.getElem_of_mem hm
    exact (hn i hi).2

theorem open_ints_agg {r : Reach} {b0 : Nat} {t : TypeId} {fs : Array Field} {v : Value} {d : DataW H} {p : List MemPlace} (hs : P.underlying t = some (.struct fs)) (hone : oneCellFields P fs = true) (hC : P.cellsOf t = fs.size) (hint : allInts P fs = true)
    (hv : Value.okWide P w r b0 t v) (h : DataW.Trod enc P w base spare held t v d p) : ∃ ns : List Int, v = .agg (ns.map (Value.int .i64)).toArray ∧ ns.length = fs.size ∧ ∀ n ∈ ns, (Lit.int .i64 n).wf = true := by
  obtain ⟨cs, rfl, hsz⟩ := okWide_struct hs hv
  obtain ⟨fuel, hf⟩ := h
  obtain ⟨ns, e, hl, hw⟩ := trod_ints hs hone hC hint hf
  refine ⟨ns, ?_, hl, hw⟩
  rw [← e]
  simp [Value.cells]

/-- A slice argument as a list. -/
theorem open_list {α : Type} {size : Nat} {cell : α → Nat → Value} {R : α → Prop} {t e : TypeId} {v : Value} {r : Reach} {b0 : Nat} {d : DataW H} {p : List MemPlace} (ht : P.underlying t = some (.slice e)) (hC : P.cellsOf e = size) (hs : 0 < size)
    (hel : ∀ n cs x, DataW.trod enc P w base spare held n e cs = some x → ∃ y : α, R y ∧ ∀ j, j < size → cs[j]? = some (cell y j))
    (hv : Value.okWide P w r b0 t v) (h : DataW.Trod enc P w base spare held t v d p) :
    ∃ (A : Option Addr) (c : Nat) (xs : List α), v = .slice A xs.length c ∧ Sl size cell w w.heap.size A xs ∧ xs.length ≤ c ∧ c ≤ maxLen ∧ ∀ x ∈ xs, R x := by
  obtain ⟨a0, len0, cap0, rfl⟩ := okWide_slice ht hv
  obtain ⟨fuel, hf⟩ := h
  rcases open_slice ht hf with ⟨hcs, _⟩ | ⟨a, len, cap, m, n, D, Pl, hcs, _, hl, hm, hmm, _, hi⟩
  · have e1 : Value.slice a0 len0 cap0 = .slice none 0 0 := by simpa [Value.cells] using hcs
    rw [e1]
    exact ⟨none, 0, [], rfl, Sl.nil_, Nat.le_refl _, Nat.zero_le _, fun x hx => absurd hx (by simp)⟩
  · have e1 : Value.slice a0 len0 cap0 = .slice (some a) len cap := by simpa [Value.cells] using hcs
    rw [e1]
    have hlm : len ≤ m := by rw [hmm]; split <;> omega
    obtain ⟨xs, hxl, hx⟩ := list_of_forall (R := fun k (y : α) => R y ∧ ∀ j, j < size → w.cell? (a.add (k * size + j)) = some (cell y j)) len (fun k hk => by
      obtain ⟨cs', h1, h2⟩ := hi k (by omega)
      obtain ⟨y, hr, hy⟩ := hel _ _ _ h2
      obtain ⟨_, hcl, hat⟩ := World.cells?_some h1
      refine ⟨y, hr, fun j hj => ?_⟩
      have := hat j (by omega)
      rw [hC, Go.Proofs.YtihepapjopcagaaGreatDoor.add_add] at this
      rw [this, hy j hj])
    subst hxl
    refine ⟨some a, cap, xs, rfl, fun k hk => ⟨a, rfl, ?_, (hx k hk).2⟩, hl, hm, fun x hx' => ?_⟩
    · have := block_of_cell ((hx k hk).2 0 hs)
      rwa [Go.Proofs.YtihepapjopcagaaGreatDoor.add_block] at this
    · obtain ⟨i, hi', rfl⟩ := List.getElem_of_mem hx'
      exact (hx i hi').1
/-- The cells of a slice, read as a list. -/
theorem trod_list {α : Type} {size : Nat} {cell : α → Nat → Value} {R : α → Prop} {t e : TypeId} {fuel : Nat} {cs : List Value} {x : DataW H × List MemPlace} (ht : P.underlying t = some (.slice e)) (hC : P.cellsOf e = size) (hs : 0 < size)
    (hel : ∀ n cs x, DataW.trod enc P w base spare held n e cs = some x → ∃ y : α, R y ∧ ∀ j, j < size → cs[j]? = some (cell y j))
    (hf : DataW.trod enc P w base spare held fuel t cs = some x) :
    ∃ (A : Option Addr) (c : Nat) (xs : List α), cs = [.slice A xs.length c] ∧ Sl size cell w w.heap.size A xs ∧ xs.length ≤ c ∧ c ≤ maxLen ∧ ∀ x ∈ xs, R x := by
  rcases open_slice ht hf with ⟨hcs, _⟩ | ⟨a, len, cap, m, n, D, Pl, hcs, _, hl, hm, hmm, _, hi⟩
  · exact ⟨none, 0, [], hcs, Sl.nil_, Nat.le_refl _, Nat.zero_le _, fun x hx => absurd hx (by simp)⟩
  · have hlm : len ≤ m := by rw [hmm]; split <;> omega
    obtain ⟨xs, hxl, hx⟩ := list_of_forall (R := fun k (y : α) => R y ∧ ∀ j, j < size → w.cell? (a.add (k * size + j)) = some (cell y j)) len (fun k hk => by
      obtain ⟨cs', h1, h2⟩ := hi k (by omega)
      obtain ⟨y, hr, hy⟩ := hel _ _ _ h2
      obtain ⟨_, hcl, hat⟩ := World.cells?_some h1
      refine ⟨y, hr, fun j hj => ?_⟩
      have := hat j (by omega)
      rw [hC, Go.Proofs.YtihepapjopcagaaGreatDoor.add_add] at this
      rw [this, hy j hj])
    subst hxl
    refine ⟨some a, cap, xs, hcs, fun k hk => ⟨a, rfl, ?_, (hx k hk).2⟩, hl, hm, fun x hx' => ?_⟩
    · have := block_of_cell ((hx k hk).2 0 hs)
      rwa [Go.Proofs.YtihepapjopcagaaGreatDoor.add_block] at this
    · obtain ⟨i, hi', rfl⟩ := List.getElem_of_mem hx'
      exact (hx i hi').1
/-- One field of a struct. -/
theorem trod_field {t : TypeId} {fs : Array Field} {fuel : Nat} {cs : List Value} {x : DataW H × List MemPlace} (hs : P.underlying t = some (.struct fs)) (h : DataW.trod enc P w base spare held fuel t cs = some x) (j : Nat) (ty : TypeId) (off k : Nat) (hj : (fs[j]?).map (fun f => (f.type, f.offset)) = some (ty, off)) (hk : P.cellsOf ty = k) :
    ∃ n y, DataW.trod enc P w base spare held n ty ((cs.drop off).take k) = some y := by
  obtain ⟨f, hf0, hf1⟩ := Option.map_eq_some_iff.1 hj
  obtain ⟨ys, n, _, _, hlen, hyl, hf⟩ := DataW.trod_struct hs h
  have h1 := hf j f hf0
  have hlt : j < fs.size := (Array.getElem?_eq_some_iff.1 hf0).1
  rw [List.getElem?_eq_getElem (by omega)] at h1
  obtain ⟨rfl, rfl⟩ := Prod.mk.inj hf1
  subst hk
  exact ⟨n, _, h1⟩
theorem trod_len {t : TypeId} {fs : Array Field} {fuel : Nat} {cs : List Value} {x : DataW H × List MemPlace} (hs : P.underlying t = some (.struct fs)) (h : DataW.trod enc P w base spare held fuel t cs = some x) : cs.length = P.cellsOf t := by
  obtain ⟨ys, n, _, _, hlen, hyl, hf⟩ := DataW.trod_struct hs h
  exact hlen
theorem int_el {i : TypeId} (hi : P.underlying i = some (.int .i64)) (n : Nat) (cs : List Value) (x : DataW H × List MemPlace) (h : DataW.trod enc P w base spare held n i cs = some x) : ∃ y : Int, (Lit.int .i64 y).wf = true ∧ ∀ j, j < 1 → cs[j]? = some (icell y j) := by
  obtain ⟨m, e, _, hw⟩ := DataW.trod_int hi h
  refine ⟨m, hw, fun j hj => ?_⟩
  obtain rfl : j = 0 := by omega
  rw [e]; rfl
end
end Go.Proofs.YtihepapjopcagaaGreatDoor
end

/- A terrain that came in, opened. -/
section
namespace Go.Proofs.YtihepapjopcagaaGreatDoor
open Go.ChangeShapes Go.WideShapes Go.RowKit Go.Deep
set_option maxRecDepth 100000

theorem open_terrain {H : Type} {enc : TypeId × Value → H} {w : World} {base b0 : Nat} {spare : Nat → Bool} {held : Bool} {r : Reach} {v : Value} {d : DataW H} {p : List MemPlace} (hv : Value.okWide Tryz.prog w r b0 30 v) (h : DataW.Trod enc Tryz.prog w base spare held 30 v d p) :
    ∃ (W Hh : Int) (GA PA : Option Addr) (gc pc : Nat) (G P : List Int), v = tv W Hh GA PA G.length gc P.length pc ∧ Sl 1 icell w w.heap.size GA G ∧ Sl 1 icell w w.heap.size PA P ∧ (G.length ≤ gc ∧ gc ≤ maxLen) ∧ (P.length ≤ pc ∧ pc ≤ maxLen) := by
  obtain ⟨cs, rfl, hsz⟩ := okWide_struct Tryz.underlying30 hv
  obtain ⟨fuel, hf⟩ := h
  rw [show (Value.agg cs).cells = cs from rfl] at hf
  have hl := trod_len Tryz.underlying30 hf
  obtain ⟨_, _, f0⟩ := trod_field Tryz.underlying30 hf 0 3 0 1 rfl (by kernel_rfl)
  obtain ⟨_, _, f1⟩ := trod_field Tryz.underlying30 hf 1 3 1 1 rfl (by kernel_rfl)
  obtain ⟨_, _, f2⟩ := trod_field Tryz.underlying30 hf 2 28 2 1 rfl (by kernel_rfl)
  obtain ⟨_, _, f3⟩ := trod_field Tryz.underlying30 hf 3 28 3 1 rfl (by kernel_rfl)
  rw [show Tryz.prog.cellsOf 30 = 4 by kernel_rfl] at hl
  obtain ⟨x0, x1, x2, x3, e⟩ : ∃ x0 x1 x2 x3, cs.toList = [x0, x1, x2, x3] := by
    match hh : cs.toList, hl with
    | [x0, x1, x2, x3], _ => exact ⟨x0, x1, x2, x3, rfl⟩
  rw [e] at f0 f1 f2 f3
  simp only [List.drop_zero, List.drop_succ_cons, List.take_succ_cons, List.take_zero] at f0 f1 f2 f3
  obtain ⟨W, e0, _, _⟩ := DataW.trod_int Tryz.underlying3 f0
  obtain ⟨Hh, e1, _, _⟩ := DataW.trod_int Tryz.underlying3 f1
  obtain ⟨GA, gc, G, e2, hg, hgl, hgc, _⟩ := trod_list (cell := icell) Tryz.underlying28 (by kernel_rfl) (by decide) (int_el Tryz.underlying3) f2
  obtain ⟨PA, pc, P, e3, hp, hpl, hpc, _⟩ := trod_list (cell := icell) Tryz.underlying28 (by kernel_rfl) (by decide) (int_el Tryz.underlying3) f3
  refine ⟨W, Hh, GA, PA, gc, pc, G, P, ?_, hg, hp, ⟨hgl, hgc⟩, ⟨hpl, hpc⟩⟩
  have : cs = #[x0, x1, x2, x3] := by apply Array.ext'; simpa using e
  rw [this]
  simp only [List.cons.injEq, and_true] at e0 e1 e2 e3
  rw [e0, e1, e2, e3]
end Go.Proofs.YtihepapjopcagaaGreatDoor
end

/- A station that came in, opened. -/
section
namespace Go.Proofs.YtihepapjopcagaaGreatDoor
open Go.ChangeShapes Go.WideShapes Go.RowKit Go.Deep
set_option maxRecDepth 100000

section
variable {H : Type} {enc : TypeId × Value → H} {w : World} {base : Nat} {spare : Nat → Bool} {held : Bool}
theorem st_cells {fuel : Nat} {cs : List Value} {x : DataW H × List MemPlace} (hf : DataW.trod enc Tryz.prog w base spare held fuel 34 cs = some x) :
    ∃ (s : St) (A : Option Addr) (c : Nat), cs = (stc s A c).toList ∧ Sl 1 icell w w.heap.size A s.pat ∧ s.pat.length ≤ c ∧ c ≤ maxLen := by
  have hl := trod_len Tryz.underlying34 hf
  rw [show Tryz.prog.cellsOf 34 = 8 by kernel_rfl] at hl
  obtain ⟨_, _, f0⟩ := trod_field Tryz.underlying34 hf 0 3 0 1 rfl (by kernel_rfl)
  obtain ⟨_, _, f1⟩ := trod_field Tryz.underlying34 hf 1 3 1 1 rfl (by kernel_rfl)
  obtain ⟨_, _, f2⟩ := trod_field Tryz.underlying34 hf 2 3 2 1 rfl (by kernel_rfl)
  obtain ⟨_, _, f3⟩ := trod_field Tryz.underlying34 hf 3 3 3 1 rfl (by kernel_rfl)
  obtain ⟨_, _, f4⟩ := trod_field Tryz.underlying34 hf 4 32 4 2 rfl (by kernel_rfl)
  obtain ⟨_, _, f6⟩ := trod_field Tryz.underlying34 hf 5 3 6 1 rfl (by kernel_rfl)
  obtain ⟨_, _, f7⟩ := trod_field Tryz.underlying34 hf 6 3 7 1 rfl (by kernel_rfl)
  obtain ⟨x0, x1, x2, x3, x4, x5, x6, x7, rfl⟩ : ∃ x0 x1 x2 x3 x4 x5 x6 x7, cs = [x0, x1, x2, x3, x4, x5, x6, x7] := by
    match cs, hl with
    | [x0, x1, x2, x3, x4, x5, x6, x7], _ => exact ⟨x0, x1, x2, x3, x4, x5, x6, x7, rfl⟩
  simp only [List.drop_zero, List.drop_succ_cons, List.take_succ_cons, List.take_zero] at f0 f1 f2 f3 f4 f6 f7
  obtain ⟨_, _, g0⟩ := trod_field Tryz.underlying32 f4 0 3 0 1 rfl (by kernel_rfl)
  obtain ⟨_, _, g1⟩ := trod_field Tryz.underlying32 f4 1 28 1 1 rfl (by kernel_rfl)
  simp only [List.drop_zero, List.drop_succ_cons, List.take_succ_cons, List.take_zero] at g0 g1
  obtain ⟨id, e0, _, _⟩ := DataW.trod_int Tryz.underlying3 f0
  obtain ⟨x, e1, _, _⟩ := DataW.trod_int Tryz.underlying3 f1
  obtain ⟨y, e2, _, _⟩ := DataW.trod_int Tryz.underlying3 f2
  obtain ⟨pw, e3, _, _⟩ := DataW.trod_int Tryz.underlying3 f3
  obtain ⟨h, e4, _, _⟩ := DataW.trod_int Tryz.underlying3 g0
  obtain ⟨A, c, pat, e5, hS, hpl, hpc, _⟩ := trod_list (cell := icell) Tryz.underlying28 (by kernel_rfl) (by decide) (int_el Tryz.underlying3) g1
  obtain ⟨bd, e6, _, _⟩ := DataW.trod_int Tryz.underlying3 f6
  obtain ⟨ch, e7, _, _⟩ := DataW.trod_int Tryz.underlying3 f7
  refine ⟨⟨id, x, y, pw, h, pat, bd, ch⟩, A, c, ?_, hS, hpl, hpc⟩
  simp only [List.cons.injEq, and_true] at e0 e1 e2 e3 e4 e5 e6 e7
  rw [e0, e1, e2, e3, e4, e5, e6, e7]
theorem open_station {b0 : Nat} {r : Reach} {v : Value} {d : DataW H} {p : List MemPlace} (hv : Value.okWide Tryz.prog w r b0 34 v) (h : DataW.Trod enc Tryz.prog w base spare held 34 v d p) :
    ∃ (s : St) (A : Option Addr) (c : Nat), v = stv s A c ∧ Sl 1 icell w w.heap.size A s.pat ∧ s.pat.length ≤ c ∧ c ≤ maxLen := by
  obtain ⟨cs, rfl, hsz⟩ := okWide_struct Tryz.underlying34 hv
  obtain ⟨fuel, hf⟩ := h
  rw [show (Value.agg cs).cells = cs from rfl] at hf
  obtain ⟨s, A, c, e, hS, h1, h2⟩ := st_cells hf
  refine ⟨s, A, c, ?_, hS, h1, h2⟩
  have : cs = stc s A c := by apply Array.ext'; exact e
  rw [this]
end
end Go.Proofs.YtihepapjopcagaaGreatDoor
end

/- Stations that came in, opened. -/
section
namespace Go.Proofs.YtihepapjopcagaaGreatDoor
open Go.ChangeShapes Go.WideShapes Go.RowKit Go.Deep
set_option maxRecDepth 100000

section
variable {H : Type} {enc : TypeId × Value → H} {w : World} {base : Nat} {spare : Nat → Bool} {held : Bool}
theorem open_stations {b0 : Nat} {r : Reach} {v : Value} {d : DataW H} {p : List MemPlace} (hv : Value.okWide Tryz.prog w r b0 54 v) (h : DataW.Trod enc Tryz.prog w base spare held 54 v d p) :
    ∃ (A : Option Addr) (c : Nat) (es : List SE), v = .slice A es.length c ∧ Sl 8 secell w w.heap.size A es ∧ Pats w es := by
  obtain ⟨A, c, es, e, hS, _, _, hR⟩ := open_list (size := 8) (cell := secell) (R := fun e => Sl 1 icell w w.heap.size e.A e.s.pat) Tryz.underlying54 (by kernel_rfl) (by decide) (fun n cs x hx => by
    obtain ⟨s, A, c, rfl, hS, _, _⟩ := st_cells hx
    refine ⟨⟨s, A, c⟩, hS, fun j hj => ?_⟩
    match j, hj with
    | 0, _ | 1, _ | 2, _ | 3, _ | 4, _ | 5, _ | 6, _ | 7, _ => rfl) hv h
  exact ⟨A, c, es, e, hS, hR⟩
end
end Go.Proofs.YtihepapjopcagaaGreatDoor
end

/- A laid table of two levels: its cells. -/
section
namespace Go.Proofs.YtihepapjopcagaaGreatDoor
open Go Go.Lib

theorem cells_of_tab2 {H : Type} {enc : TypeId × Value → H} {P : Program} {w : World} {base : Nat} {sp : Nat → Bool} {held : Bool} {fuel : Nat} {t e f : TypeId} {n m : Nat} {k : IntKind} {cs : List Value} {rows : List (List Int)} {p : List MemPlace}
    (ht : P.underlying t = some (.array n e)) (he : P.underlying e = some (.array m f)) (hf : P.underlying f = some (.int k)) (hcf : P.cellsOf f = 1) (hce : P.cellsOf e = m) (hct : P.cellsOf t = n * m)
    (h : DataW.trod enc P w base sp held fuel t cs = some (.agg (rows.map fun zs => tabData k zs), p)) (i : Nat) (hi : i < rows.length) : (cs.drop (i * m)).take m = rows[i].map fun z => Value.int k z := by
  cases fuel with
  | zero => simp [DataW.trod] at h
  | succ fuel =>
    simp only [DataW.trod, ht, hce, hct] at h
    split at h
    · rename_i hl
      obtain ⟨xs, hm, hx⟩ := Option.map_eq_some_iff.1 h
      have hxs : xs.map (·.1) = rows.map fun zs => (tabData k zs : DataW H) := by
        have := congrArg Prod.fst hx
        simpa using this
      have hxl : xs.length = n := by simpa using mapM_length hm
      have hrl : rows.length = n := by
        have := congrArg List.length hxs
        simp at this
        omega
      have hin : i < n := by omega
      obtain ⟨b, hb, hfb⟩ := mapM_at hm i i (by simp [hin])
      have h2 : (xs.map (·.1))[i]? = some b.1 := by simp [hb]
      rw [hxs] at h2
      have h3 : b.1 = tabData k rows[i] := by simpa [hi] using h2.symm
      have hfb' : DataW.trod enc P w base sp held fuel e ((cs.drop (i * m)).take m) = some (tabData k rows[i], b.2) := by rw [hfb, ← h3]
      exact cells_of_tab he hf hcf hce hfb'
    · cases h
theorem cells_of_row2 {cs : List Value} {m i j : Nat} {zs : List Int} {k : IntKind} {z : Int} (h : (cs.drop (i * m)).take m = zs.map fun z => Value.int k z) (hj : j < m) (hz : zs[j]? = some z) : cs[i * m + j]? = some (.int k z) := by
  have := congrArg (·[j]?) h
  simp only [List.getElem?_map, hz, List.getElem?_take_of_lt hj, List.getElem?_drop] at this
  exact this
end Go.Proofs.YtihepapjopcagaaGreatDoor
end
