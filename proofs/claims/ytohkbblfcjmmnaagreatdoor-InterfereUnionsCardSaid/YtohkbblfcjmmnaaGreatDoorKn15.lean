/- The law package of layer 15: the walk of known. -/
import Derived.Test.YtohkbblfcjmmnaaGreatDoorKn15M
namespace Go.Proofs.YtohkbblfcjmmnaaGreatDoor
open Go Go.RowKit
set_option maxRecDepth 100000

/-- What known holds behind its three stations. -/
structure KW15 (w : World) (ba bb bc : Nat) (A1 A2 A3 : Option Addr) (c1 c2 c3 : Nat) : Prop where
  a : Box w ba (stc M.qA A1 c1) 28
  b : Box w bb (stc M.qB A2 c2) 28
  c : Box w bc (stc M.qC A3 c3) 28
  s1 : Sl 1 icell w w.heap.size A1 M.qA.pat
  s2 : Sl 1 icell w w.heap.size A2 M.qB.pat
  s3 : Sl 1 icell w w.heap.size A3 M.qC.pat
  tab : Tab w
theorem KW15.below {w w' : World} {ba bb bc : Nat} {A1 A2 A3 : Option Addr} {c1 c2 c3 : Nat} (h : KW15 w ba bb bc A1 A2 A3 c1 c2 c3) (hb : Below w.heap.size w w') : KW15 w' ba bb bc A1 A2 A3 c1 c2 c3 :=
  ⟨h.a.below hb, h.b.below hb, h.c.below hb, (h.s1.below hb).more hb.size, (h.s2.below hb).more hb.size, (h.s3.below hb).more hb.size, h.tab.kept hb⟩
theorem KW15.held {w' : World} {ba bb bc : Nat} {A1 A2 A3 : Option Addr} {c1 c2 c3 : Nat} (h : KW15 w' ba bb bc A1 A2 A3 c1 c2 c3) :
    w'.cell? ⟨ba, 0, none⟩ = some (.int .i64 M.qA.id) ∧ w'.cell? ⟨ba, 1, none⟩ = some (.int .i64 M.qA.x) ∧ w'.cell? ⟨ba, 2, none⟩ = some (.int .i64 M.qA.y) ∧ w'.cell? ⟨ba, 3, none⟩ = some (.int .i64 M.qA.pw) ∧ w'.cell? ⟨ba, 4, none⟩ = some (.int .i64 M.qA.h) ∧ w'.cell? ⟨ba, 5, none⟩ = some (.slice A1 M.qA.pat.length c1) ∧ w'.cell? ⟨ba, 6, none⟩ = some (.int .i64 M.qA.band) ∧ w'.cell? ⟨ba, 7, none⟩ = some (.int .i64 M.qA.ch) ∧ w'.cell? ⟨bb, 0, none⟩ = some (.int .i64 M.qB.id) ∧ w'.cell? ⟨bb, 1, none⟩ = some (.int .i64 M.qB.x) ∧ w'.cell? ⟨bb, 2, none⟩ = some (.int .i64 M.qB.y) ∧ w'.cell? ⟨bb, 3, none⟩ = some (.int .i64 M.qB.pw) ∧ w'.cell? ⟨bb, 4, none⟩ = some (.int .i64 M.qB.h) ∧ w'.cell? ⟨bb, 5, none⟩ = some (.slice A2 M.qB.pat.length c2) ∧ w'.cell? ⟨bb, 6, none⟩ = some (.int .i64 M.qB.band) ∧ w'.cell? ⟨bb, 7, none⟩ = some (.int .i64 M.qB.ch) ∧ w'.cell? ⟨bc, 0, none⟩ = some (.int .i64 M.qC.id) ∧ w'.cell? ⟨bc, 1, none⟩ = some (.int .i64 M.qC.x) ∧ w'.cell? ⟨bc, 2, none⟩ = some (.int .i64 M.qC.y) ∧ w'.cell? ⟨bc, 3, none⟩ = some (.int .i64 M.qC.pw) ∧ w'.cell? ⟨bc, 4, none⟩ = some (.int .i64 M.qC.h) ∧ w'.cell? ⟨bc, 5, none⟩ = some (.slice A3 M.qC.pat.length c3) ∧ w'.cell? ⟨bc, 6, none⟩ = some (.int .i64 M.qC.band) ∧ w'.cell? ⟨bc, 7, none⟩ = some (.int .i64 M.qC.ch) := by
  obtain ⟨x0, x1, x2, x3, x4, x5, x6, x7⟩ := h.a.c8
  obtain ⟨y0, y1, y2, y3, y4, y5, y6, y7⟩ := h.b.c8
  obtain ⟨z0, z1, z2, z3, z4, z5, z6, z7⟩ := h.c.c8
  exact ⟨x0, x1, x2, x3, x4, x5, x6, x7, y0, y1, y2, y3, y4, y5, y6, y7, z0, z1, z2, z3, z4, z5, z6, z7⟩
theorem pats2 {w : World} {s t : St} {A B : Option Addr} {c d : Nat} (h : Sl 1 icell w w.heap.size A s.pat) (h2 : Sl 1 icell w w.heap.size B t.pat) : Pats w [⟨s, A, c⟩, ⟨t, B, d⟩] := fun e he => by
  rcases List.mem_cons.1 he with rfl | he
  · exact h
  · obtain rfl : e = ⟨t, B, d⟩ := by simpa using he
    exact h2
theorem pl2 {s t : St} {A B : Option Addr} {c d : Nat} (h : s.pat.length ≤ 1000) (h2 : t.pat.length ≤ 1000) : ∀ e ∈ ([⟨s, A, c⟩, ⟨t, B, d⟩] : List SE), e.s.pat.length ≤ 1000 := fun e he => by
  rcases List.mem_cons.1 he with rfl | he
  · exact h
  · obtain rfl : e = ⟨t, B, d⟩ := by simpa using he
    exact h2

set_option maxHeartbeats 32000000 in
theorem known_any (w : World) (ht : Tab w) : Calls Tryz.prog 9 #[] w fun e w' => e = .returned (.bool true) ∧ Below w.heap.size w w' := by
  go_enter Tryz.func9, Tryz.ntmps9
  go_wp2_with fail
  have kw : Calls Tryz.prog 28 #[.int .i64 2, .int .i64 101] w (RetSt w M.qA) := at_ok 2 101 w
  refine kw.mono ?_
  rintro e w1 ⟨A1, c1, rfl, o1, B1⟩
  have S1 := Sl.of_own (by decide) o1
  go_wp2_with fail
  have kw1 : Calls Tryz.prog 28 #[.int .i64 8, .int .i64 101] w1 (RetSt w1 M.qB) := at_ok 8 101 w1
  refine kw1.mono ?_
  rintro e w2 ⟨A2, c2, rfl, o2, hb2⟩
  have S2 := Sl.of_own (by decide) o2
  have B2 := after_ B1 hb2
  go_wp2_with fail
  have kw2 : Calls Tryz.prog 28 #[.int .i64 5, .int .i64 300] w2 (RetSt w2 M.qC) := at_ok 5 300 w2
  refine kw2.mono ?_
  rintro e w3 ⟨A3, c3, rfl, o3, hb3⟩
  have S3 := Sl.of_own (by decide) o3
  have B3 := after_ B2 hb3
  obtain ⟨V3, HV3, s4, a4, t4, hb4, -⟩ := boxes3 w3 (stc M.qA A1 c1) 28 (stc M.qB A2 c2) 28 (stc M.qC A3 c3) 28
  have B4 := after_ B3 hb4
  have kw : KW15 V3 w3.heap.size (w3.heap.size + 1) (w3.heap.size + 1 + 1) A1 A2 A3 c1 c2 c3 :=
    ⟨s4, a4, t4, (((((S1.below hb2).more hb2.size).below hb3).more hb3.size).below hb4).more hb4.size, (((S2.below hb3).more hb3.size).below hb4).more hb4.size, (S3.below hb4).more hb4.size, ht.kept B4⟩
  clear o1 o2 o3 S1 S2 S3 s4 a4 t4 hb2 hb3 hb4 B1 B2 B3
  have h3 := HV3.out
  go_wp2_with fail
  clear h3
  have kR : Hid (∀ wa GA PA gc pc, KW15 wa w3.heap.size (w3.heap.size + 1) (w3.heap.size + 1 + 1) A1 A2 A3 c1 c2 c3 → Sl 1 icell wa wa.heap.size GA (M.rG 9) → Sl 1 icell wa wa.heap.size PA (M.rP 9) → Calls Tryz.prog 15 #[tv 9 1 GA PA 9 gc 9 pc, stv M.qA A1 c1, stv M.qB A2 c2, .int .i64 0] wa (RetL 1 icell wa [0, 3, 4, 5] 0)) := Lib.hid (fun wa GA PA gc pc kwa hG hPq => by
    have kk := icells_any 9 1 GA PA gc pc M.mG M.mP M.qA M.qB A1 A2 c1 c2 0 wa kwa.tab hG hPq kwa.s1 kwa.s2 (by decide) (by decide) (by decide) (by decide)
    rw [M.k15a] at kk
    exact kk)
  have kwd : KW15 V3.drew w3.heap.size (w3.heap.size + 1) (w3.heap.size + 1 + 1) A1 A2 A3 c1 c2 c3 := kw.below (Below.refl _ _).drew
  have Bd := B4.drew
  have K0 := kwd.held
  have K1 := kw.held
  have kA : ∀ wa, Below V3.drew.heap.size V3.drew wa → _ := fun wa hba => (kwd.below hba).held
  go_region_held3 (fun w' => w'.cell? ⟨w3.heap.size, 0, none⟩ = some (.int .i64 M.qA.id) ∧ w'.cell? ⟨w3.heap.size, 1, none⟩ = some (.int .i64 M.qA.x) ∧ w'.cell? ⟨w3.heap.size, 2, none⟩ = some (.int .i64 M.qA.y) ∧ w'.cell? ⟨w3.heap.size, 3, none⟩ = some (.int .i64 M.qA.pw) ∧ w'.cell? ⟨w3.heap.size, 4, none⟩ = some (.int .i64 M.qA.h) ∧ w'.cell? ⟨w3.heap.size, 5, none⟩ = some (.slice A1 M.qA.pat.length c1) ∧ w'.cell? ⟨w3.heap.size, 6, none⟩ = some (.int .i64 M.qA.band) ∧ w'.cell? ⟨w3.heap.size, 7, none⟩ = some (.int .i64 M.qA.ch) ∧ w'.cell? ⟨w3.heap.size + 1, 0, none⟩ = some (.int .i64 M.qB.id) ∧ w'.cell? ⟨w3.heap.size + 1, 1, none⟩ = some (.int .i64 M.qB.x) ∧ w'.cell? ⟨w3.heap.size + 1, 2, none⟩ = some (.int .i64 M.qB.y) ∧ w'.cell? ⟨w3.heap.size + 1, 3, none⟩ = some (.int .i64 M.qB.pw) ∧ w'.cell? ⟨w3.heap.size + 1, 4, none⟩ = some (.int .i64 M.qB.h) ∧ w'.cell? ⟨w3.heap.size + 1, 5, none⟩ = some (.slice A2 M.qB.pat.length c2) ∧ w'.cell? ⟨w3.heap.size + 1, 6, none⟩ = some (.int .i64 M.qB.band) ∧ w'.cell? ⟨w3.heap.size + 1, 7, none⟩ = some (.int .i64 M.qB.ch) ∧ w'.cell? ⟨w3.heap.size + 1 + 1, 0, none⟩ = some (.int .i64 M.qC.id) ∧ w'.cell? ⟨w3.heap.size + 1 + 1, 1, none⟩ = some (.int .i64 M.qC.x) ∧ w'.cell? ⟨w3.heap.size + 1 + 1, 2, none⟩ = some (.int .i64 M.qC.y) ∧ w'.cell? ⟨w3.heap.size + 1 + 1, 3, none⟩ = some (.int .i64 M.qC.pw) ∧ w'.cell? ⟨w3.heap.size + 1 + 1, 4, none⟩ = some (.int .i64 M.qC.h) ∧ w'.cell? ⟨w3.heap.size + 1 + 1, 5, none⟩ = some (.slice A3 M.qC.pat.length c3) ∧ w'.cell? ⟨w3.heap.size + 1 + 1, 6, none⟩ = some (.int .i64 M.qC.band) ∧ w'.cell? ⟨w3.heap.size + 1 + 1, 7, none⟩ = some (.int .i64 M.qC.ch)) (first | exact K0 | exact K1 | exact kA _ (by assumption))
    (first
      | (go_at_call 29; ((with_reducible refine (row_ok _).mono ?_); rintro e wa ⟨GA, gc, PA, pc, rfl, hG, hPq, hba⟩; have kwa := kwd.below hba; have kk := kR.out wa GA PA gc pc kwa hG hPq))
      | (go_at_call 15; (refine kk.mono ?_; rintro e wb ⟨LA, lc, rfl, hLs, hbb⟩; have hbB := after_ hba hbb)))
  replace kw := kwd.below hbB
  replace B4 := after_ Bd hbB
  clear kA K0 K1 kwd Bd hba hbb hbB hG hPq kwa kk kR
  obtain ⟨V5, HV5, u5, hb5, -⟩ := boxes1 wb #[.int .i64 0, .int .i64 3, .int .i64 4, .int .i64 5] 3
  replace kw := kw.below hb5
  replace B4 := after_ B4 hb5
  have hq : Sl 1 icell V5 V5.heap.size (some ⟨wb.heap.size, 0, none⟩) [0, 3, 4, 5] := Sl.of_box u5 rfl
  have kS := same_any LA (some ⟨wb.heap.size, 0, none⟩) lc 4 [0, 3, 4, 5] [0, 3, 4, 5] V5 ((hLs.below hb5).more hb5.size) hq (by simp)
  rw [decide_eq_true rfl] at kS
  have h5 := HV5.out
  go_wp2_with fail
  clear h5
  refine kS.mono ?_
  rintro e w6 ⟨rfl, hb6⟩
  replace kw := kw.below hb6
  replace B4 := after_ B4 hb6
  obtain ⟨x0, x1, x2, x3, x4, x5, x6, x7⟩ := kw.a.c8
  obtain ⟨y0, y1, y2, y3, y4, y5, y6, y7⟩ := kw.b.c8
  obtain ⟨z0, z1, z2, z3, z4, z5, z6, z7⟩ := kw.c.c8
  go_wp2_with fail
  clear x0 x1 x2 x3 x4 x5 x6 x7 y0 y1 y2 y3 y4 y5 y6 y7 z0 z1 z2 z3 z4 z5 z6 z7
  refine (loses_ok M.qA M.qB A1 A2 c1 c2 0 40 w6 kw.tab kw.s1 kw.s2 (by decide) (by decide) M.k15b).mono ?_
  rintro e w7 ⟨rfl, hb7⟩
  replace kw := kw.below hb7
  replace B4 := after_ B4 hb7
  obtain ⟨x0, x1, x2, x3, x4, x5, x6, x7⟩ := kw.a.c8
  obtain ⟨y0, y1, y2, y3, y4, y5, y6, y7⟩ := kw.b.c8
  obtain ⟨z0, z1, z2, z3, z4, z5, z6, z7⟩ := kw.c.c8
  go_wp2_with fail
  clear x0 x1 x2 x3 x4 x5 x6 x7 y0 y1 y2 y3 y4 y5 y6 y7 z0 z1 z2 z3 z4 z5 z6 z7
  refine (loses_ok M.qA M.qB A1 A2 c1 c2 1 0 w7 kw.tab kw.s1 kw.s2 (by decide) (by decide) M.k15c).mono ?_
  rintro e w8 ⟨rfl, hb8⟩
  replace kw := kw.below hb8
  replace B4 := after_ B4 hb8
  obtain ⟨x0, x1, x2, x3, x4, x5, x6, x7⟩ := kw.a.c8
  obtain ⟨y0, y1, y2, y3, y4, y5, y6, y7⟩ := kw.b.c8
  obtain ⟨z0, z1, z2, z3, z4, z5, z6, z7⟩ := kw.c.c8
  go_wp2_with fail
  clear x0 x1 x2 x3 x4 x5 x6 x7 y0 y1 y2 y3 y4 y5 y6 y7 z0 z1 z2 z3 z4 z5 z6 z7
  refine (loses_ok M.qA M.qC A1 A3 c1 c3 1 60 w8 kw.tab kw.s1 kw.s3 (by decide) (by decide) M.k15d).mono ?_
  rintro e w9 ⟨rfl, hb9⟩
  replace kw := kw.below hb9
  replace B4 := after_ B4 hb9
  have kR : Hid (∀ wa GA PA gc pc, KW15 wa w3.heap.size (w3.heap.size + 1) (w3.heap.size + 1 + 1) A1 A2 A3 c1 c2 c3 → Sl 1 icell wa wa.heap.size GA (M.rG 9) → Sl 1 icell wa wa.heap.size PA (M.rP 9) → Calls Tryz.prog 20 #[tv 9 1 GA PA 9 gc 9 pc, stv M.qA A1 c1, stv M.qB A2 c2, .int .i64 0, .int .i64 666] wa (fun e w' => e = .returned (.tuple #[.bool true, .int .i64 0]) ∧ Below wa.heap.size wa w')) := Lib.hid (fun wa GA PA gc pc kwa hG hPq => by
    have kk := iexceeds_any 9 1 GA PA gc pc M.mG M.mP M.qA M.qB A1 A2 c1 c2 0 666 wa kwa.tab hG hPq kwa.s1 kwa.s2 (by decide) (by decide) (by decide) (by decide)
    rw [M.k15e] at kk
    exact kk)
  go_wp2_with fail
  have kwd : KW15 w9.drew w3.heap.size (w3.heap.size + 1) (w3.heap.size + 1 + 1) A1 A2 A3 c1 c2 c3 := kw.below (Below.refl _ _).drew
  have Bd := B4.drew
  have K0 := kwd.held
  have K1 := kw.held
  have kA : ∀ wa, Below w9.drew.heap.size w9.drew wa → _ := fun wa hba => (kwd.below hba).held
  go_region_held3 (fun w' => w'.cell? ⟨w3.heap.size, 0, none⟩ = some (.int .i64 M.qA.id) ∧ w'.cell? ⟨w3.heap.size, 1, none⟩ = some (.int .i64 M.qA.x) ∧ w'.cell? ⟨w3.heap.size, 2, none⟩ = some (.int .i64 M.qA.y) ∧ w'.cell? ⟨w3.heap.size, 3, none⟩ = some (.int .i64 M.qA.pw) ∧ w'.cell? ⟨w3.heap.size, 4, none⟩ = some (.int .i64 M.qA.h) ∧ w'.cell? ⟨w3.heap.size, 5, none⟩ = some (.slice A1 M.qA.pat.length c1) ∧ w'.cell? ⟨w3.heap.size, 6, none⟩ = some (.int .i64 M.qA.band) ∧ w'.cell? ⟨w3.heap.size, 7, none⟩ = some (.int .i64 M.qA.ch) ∧ w'.cell? ⟨w3.heap.size + 1, 0, none⟩ = some (.int .i64 M.qB.id) ∧ w'.cell? ⟨w3.heap.size + 1, 1, none⟩ = some (.int .i64 M.qB.x) ∧ w'.cell? ⟨w3.heap.size + 1, 2, none⟩ = some (.int .i64 M.qB.y) ∧ w'.cell? ⟨w3.heap.size + 1, 3, none⟩ = some (.int .i64 M.qB.pw) ∧ w'.cell? ⟨w3.heap.size + 1, 4, none⟩ = some (.int .i64 M.qB.h) ∧ w'.cell? ⟨w3.heap.size + 1, 5, none⟩ = some (.slice A2 M.qB.pat.length c2) ∧ w'.cell? ⟨w3.heap.size + 1, 6, none⟩ = some (.int .i64 M.qB.band) ∧ w'.cell? ⟨w3.heap.size + 1, 7, none⟩ = some (.int .i64 M.qB.ch) ∧ w'.cell? ⟨w3.heap.size + 1 + 1, 0, none⟩ = some (.int .i64 M.qC.id) ∧ w'.cell? ⟨w3.heap.size + 1 + 1, 1, none⟩ = some (.int .i64 M.qC.x) ∧ w'.cell? ⟨w3.heap.size + 1 + 1, 2, none⟩ = some (.int .i64 M.qC.y) ∧ w'.cell? ⟨w3.heap.size + 1 + 1, 3, none⟩ = some (.int .i64 M.qC.pw) ∧ w'.cell? ⟨w3.heap.size + 1 + 1, 4, none⟩ = some (.int .i64 M.qC.h) ∧ w'.cell? ⟨w3.heap.size + 1 + 1, 5, none⟩ = some (.slice A3 M.qC.pat.length c3) ∧ w'.cell? ⟨w3.heap.size + 1 + 1, 6, none⟩ = some (.int .i64 M.qC.band) ∧ w'.cell? ⟨w3.heap.size + 1 + 1, 7, none⟩ = some (.int .i64 M.qC.ch)) (first | exact K0 | exact K1 | exact kA _ (by assumption))
    (first
      | (go_at_call 29; ((with_reducible refine (row_ok _).mono ?_); rintro e wa ⟨GA, gc, PA, pc, rfl, hG, hPq, hba⟩; have kwa := kwd.below hba; have kk := kR.out wa GA PA gc pc kwa hG hPq))
      | (go_at_call 20; (refine kk.mono ?_; rintro e wb ⟨rfl, hbb⟩; have hbB := after_ hba hbb)))
  replace kw := kwd.below hbB
  replace B4 := after_ Bd hbB
  clear kA K0 K1 kwd Bd hba hbb hbB hG hPq kwa kk kR
  have kR : Hid (∀ wa GA PA gc pc, KW15 wa w3.heap.size (w3.heap.size + 1) (w3.heap.size + 1 + 1) A1 A2 A3 c1 c2 c3 → Sl 1 icell wa wa.heap.size GA (M.rG 9) → Sl 1 icell wa wa.heap.size PA (M.rP 9) → Calls Tryz.prog 20 #[tv 9 1 GA PA 9 gc 9 pc, stv M.qA A1 c1, stv M.qB A2 c2, .int .i64 0, .int .i64 667] wa (fun e w' => e = .returned (.tuple #[.bool false, .int .i64 0]) ∧ Below wa.heap.size wa w')) := Lib.hid (fun wa GA PA gc pc kwa hG hPq => by
    have kk := iexceeds_any 9 1 GA PA gc pc M.mG M.mP M.qA M.qB A1 A2 c1 c2 0 667 wa kwa.tab hG hPq kwa.s1 kwa.s2 (by decide) (by decide) (by decide) (by decide)
    rw [M.k15f] at kk
    exact kk)
  go_wp2_with fail
  have kwd : KW15 wb.drew w3.heap.size (w3.heap.size + 1) (w3.heap.size + 1 + 1) A1 A2 A3 c1 c2 c3 := kw.below (Below.refl _ _).drew
  have Bd := B4.drew
  have K0 := kwd.held
  have K1 := kw.held
  have kA : ∀ wa, Below wb.drew.heap.size wb.drew wa → _ := fun wa hba => (kwd.below hba).held
  go_region_held3 (fun w' => w'.cell? ⟨w3.heap.size, 0, none⟩ = some (.int .i64 M.qA.id) ∧ w'.cell? ⟨w3.heap.size, 1, none⟩ = some (.int .i64 M.qA.x) ∧ w'.cell? ⟨w3.heap.size, 2, none⟩ = some (.int .i64 M.qA.y) ∧ w'.cell? ⟨w3.heap.size, 3, none⟩ = some (.int .i64 M.qA.pw) ∧ w'.cell? ⟨w3.heap.size, 4, none⟩ = some (.int .i64 M.qA.h) ∧ w'.cell? ⟨w3.heap.size, 5, none⟩ = some (.slice A1 M.qA.pat.length c1) ∧ w'.cell? ⟨w3.heap.size, 6, none⟩ = some (.int .i64 M.qA.band) ∧ w'.cell? ⟨w3.heap.size, 7, none⟩ = some (.int .i64 M.qA.ch) ∧ w'.cell? ⟨w3.heap.size + 1, 0, none⟩ = some (.int .i64 M.qB.id) ∧ w'.cell? ⟨w3.heap.size + 1, 1, none⟩ = some (.int .i64 M.qB.x) ∧ w'.cell? ⟨w3.heap.size + 1, 2, none⟩ = some (.int .i64 M.qB.y) ∧ w'.cell? ⟨w3.heap.size + 1, 3, none⟩ = some (.int .i64 M.qB.pw) ∧ w'.cell? ⟨w3.heap.size + 1, 4, none⟩ = some (.int .i64 M.qB.h) ∧ w'.cell? ⟨w3.heap.size + 1, 5, none⟩ = some (.slice A2 M.qB.pat.length c2) ∧ w'.cell? ⟨w3.heap.size + 1, 6, none⟩ = some (.int .i64 M.qB.band) ∧ w'.cell? ⟨w3.heap.size + 1, 7, none⟩ = some (.int .i64 M.qB.ch) ∧ w'.cell? ⟨w3.heap.size + 1 + 1, 0, none⟩ = some (.int .i64 M.qC.id) ∧ w'.cell? ⟨w3.heap.size + 1 + 1, 1, none⟩ = some (.int .i64 M.qC.x) ∧ w'.cell? ⟨w3.heap.size + 1 + 1, 2, none⟩ = some (.int .i64 M.qC.y) ∧ w'.cell? ⟨w3.heap.size + 1 + 1, 3, none⟩ = some (.int .i64 M.qC.pw) ∧ w'.cell? ⟨w3.heap.size + 1 + 1, 4, none⟩ = some (.int .i64 M.qC.h) ∧ w'.cell? ⟨w3.heap.size + 1 + 1, 5, none⟩ = some (.slice A3 M.qC.pat.length c3) ∧ w'.cell? ⟨w3.heap.size + 1 + 1, 6, none⟩ = some (.int .i64 M.qC.band) ∧ w'.cell? ⟨w3.heap.size + 1 + 1, 7, none⟩ = some (.int .i64 M.qC.ch)) (first | exact K0 | exact K1 | exact kA _ (by assumption))
    (first
      | (go_at_call 29; ((with_reducible refine (row_ok _).mono ?_); rintro e wa ⟨GA, gc, PA, pc, rfl, hG, hPq, hba⟩; have kwa := kwd.below hba; have kk := kR.out wa GA PA gc pc kwa hG hPq))
      | (go_at_call 20; (refine kk.mono ?_; rintro e wb ⟨rfl, hbb⟩; have hbB := after_ hba hbb)))
  replace kw := kwd.below hbB
  replace B4 := after_ Bd hbB
  clear kA K0 K1 kwd Bd hba hbb hbB hG hPq kwa kk kR
  have kR : Hid (∀ wa GA PA gc pc LA lc, KW15 wa w3.heap.size (w3.heap.size + 1) (w3.heap.size + 1 + 1) A1 A2 A3 c1 c2 c3 → Sl 1 icell wa wa.heap.size GA (M.rG 9) → Sl 1 icell wa wa.heap.size PA (M.rP 9) → Sl 8 secell wa wa.heap.size LA [⟨M.qB, A2, c2⟩, ⟨M.qC, A3, c3⟩] → Calls Tryz.prog 23 #[tv 9 1 GA PA 9 gc 9 pc, stv M.qA A1 c1, .slice LA 2 lc] wa (fun e w' => e = .returned (.tuple #[.int .i64 60, .int .i64 0]) ∧ Below wa.heap.size wa w')) := Lib.hid (fun wa GA PA gc pc LA lc kwa hG hPq hL => by
    have kk := iunion_any 9 1 GA PA gc pc M.mG M.mP M.qA A1 c1 LA lc [⟨M.qB, A2, c2⟩, ⟨M.qC, A3, c3⟩] wa kwa.tab hG hPq kwa.s1 hL (pats2 kwa.s2 kwa.s3) (by simp) (by decide) (by decide) (by decide) (pl2 (by decide) (by decide))
    rw [show ([⟨M.qB, A2, c2⟩, ⟨M.qC, A3, c3⟩] : List SE).map (·.s) = [M.qB, M.qC] from rfl, M.k15g] at kk
    exact kk)
  go_wp2_with fail
  have e0 : Box (wb.alloc (.cells #[.int .i64 M.qB.id, .int .i64 M.qB.x, .int .i64 M.qB.y, .int .i64 M.qB.pw, .int .i64 M.qB.h, .slice A2 M.qB.pat.length c2, .int .i64 M.qB.band, .int .i64 M.qB.ch, .int .i64 M.qC.id, .int .i64 M.qC.x, .int .i64 M.qC.y, .int .i64 M.qC.pw, .int .i64 M.qC.h, .slice A3 M.qC.pat.length c3, .int .i64 M.qC.band, .int .i64 M.qC.ch] 28)).drew wb.heap.size #[.int .i64 M.qB.id, .int .i64 M.qB.x, .int .i64 M.qB.y, .int .i64 M.qB.pw, .int .i64 M.qB.h, .slice A2 M.qB.pat.length c2, .int .i64 M.qB.band, .int .i64 M.qB.ch, .int .i64 M.qC.id, .int .i64 M.qC.x, .int .i64 M.qC.y, .int .i64 M.qC.pw, .int .i64 M.qC.h, .slice A3 M.qC.pat.length c3, .int .i64 M.qC.band, .int .i64 M.qC.ch] 28 := Box.new wb _ _
  have hb0 : Below wb.drew.heap.size wb.drew (wb.alloc (.cells #[.int .i64 M.qB.id, .int .i64 M.qB.x, .int .i64 M.qB.y, .int .i64 M.qB.pw, .int .i64 M.qB.h, .slice A2 M.qB.pat.length c2, .int .i64 M.qB.band, .int .i64 M.qB.ch, .int .i64 M.qC.id, .int .i64 M.qC.x, .int .i64 M.qC.y, .int .i64 M.qC.pw, .int .i64 M.qC.h, .slice A3 M.qC.pat.length c3, .int .i64 M.qC.band, .int .i64 M.qC.ch] 28)).drew := (Below.refl _ wb.drew).alloc (Nat.le_refl _) _
  have kwd : KW15 wb.drew w3.heap.size (w3.heap.size + 1) (w3.heap.size + 1 + 1) A1 A2 A3 c1 c2 c3 := kw.below (Below.refl _ _).drew
  have Bd := B4.drew
  have K0 := kwd.held
  have K1 := kw.held
  have kA : ∀ wa, Below wb.drew.heap.size wb.drew wa → _ := fun wa hba => (kwd.below hba).held
  go_region_held3 (fun w' => w'.cell? ⟨w3.heap.size, 0, none⟩ = some (.int .i64 M.qA.id) ∧ w'.cell? ⟨w3.heap.size, 1, none⟩ = some (.int .i64 M.qA.x) ∧ w'.cell? ⟨w3.heap.size, 2, none⟩ = some (.int .i64 M.qA.y) ∧ w'.cell? ⟨w3.heap.size, 3, none⟩ = some (.int .i64 M.qA.pw) ∧ w'.cell? ⟨w3.heap.size, 4, none⟩ = some (.int .i64 M.qA.h) ∧ w'.cell? ⟨w3.heap.size, 5, none⟩ = some (.slice A1 M.qA.pat.length c1) ∧ w'.cell? ⟨w3.heap.size, 6, none⟩ = some (.int .i64 M.qA.band) ∧ w'.cell? ⟨w3.heap.size, 7, none⟩ = some (.int .i64 M.qA.ch) ∧ w'.cell? ⟨w3.heap.size + 1, 0, none⟩ = some (.int .i64 M.qB.id) ∧ w'.cell? ⟨w3.heap.size + 1, 1, none⟩ = some (.int .i64 M.qB.x) ∧ w'.cell? ⟨w3.heap.size + 1, 2, none⟩ = some (.int .i64 M.qB.y) ∧ w'.cell? ⟨w3.heap.size + 1, 3, none⟩ = some (.int .i64 M.qB.pw) ∧ w'.cell? ⟨w3.heap.size + 1, 4, none⟩ = some (.int .i64 M.qB.h) ∧ w'.cell? ⟨w3.heap.size + 1, 5, none⟩ = some (.slice A2 M.qB.pat.length c2) ∧ w'.cell? ⟨w3.heap.size + 1, 6, none⟩ = some (.int .i64 M.qB.band) ∧ w'.cell? ⟨w3.heap.size + 1, 7, none⟩ = some (.int .i64 M.qB.ch) ∧ w'.cell? ⟨w3.heap.size + 1 + 1, 0, none⟩ = some (.int .i64 M.qC.id) ∧ w'.cell? ⟨w3.heap.size + 1 + 1, 1, none⟩ = some (.int .i64 M.qC.x) ∧ w'.cell? ⟨w3.heap.size + 1 + 1, 2, none⟩ = some (.int .i64 M.qC.y) ∧ w'.cell? ⟨w3.heap.size + 1 + 1, 3, none⟩ = some (.int .i64 M.qC.pw) ∧ w'.cell? ⟨w3.heap.size + 1 + 1, 4, none⟩ = some (.int .i64 M.qC.h) ∧ w'.cell? ⟨w3.heap.size + 1 + 1, 5, none⟩ = some (.slice A3 M.qC.pat.length c3) ∧ w'.cell? ⟨w3.heap.size + 1 + 1, 6, none⟩ = some (.int .i64 M.qC.band) ∧ w'.cell? ⟨w3.heap.size + 1 + 1, 7, none⟩ = some (.int .i64 M.qC.ch)) (first | exact K0 | exact K1 | exact kA _ (by assumption) | exact (kwa.below ((Below.refl wa.heap.size wa).alloc (Nat.le_refl _) _)).held)
    (first
      | (go_at_call 23; ((with_reducible refine kk.mono ?_); rintro e wb ⟨rfl, hbb⟩; have hbB := after_ hba hbb))
      | (go_at_call 23; ((refine (kR.out _ GA PA gc pc _ 2 (kwa.below ((Below.refl wa.heap.size wa).alloc (Nat.le_refl _) _)) ((hG.below ((Below.refl wa.heap.size wa).alloc (Nat.le_refl _) _)).more (by simp)) ((hPq.below ((Below.refl wa.heap.size wa).alloc (Nat.le_refl _) _)).more (by simp)) (Sl.of_box (size := 8) (cell := secell) (xs := [⟨M.qB, A2, c2⟩, ⟨M.qC, A3, c3⟩]) (Box.new wa #[.int .i64 M.qB.id, .int .i64 M.qB.x, .int .i64 M.qB.y, .int .i64 M.qB.pw, .int .i64 M.qB.h, .slice A2 M.qB.pat.length c2, .int .i64 M.qB.band, .int .i64 M.qB.ch, .int .i64 M.qC.id, .int .i64 M.qC.x, .int .i64 M.qC.y, .int .i64 M.qC.pw, .int .i64 M.qC.h, .slice A3 M.qC.pat.length c3, .int .i64 M.qC.band, .int .i64 M.qC.ch] 28) rfl)).mono ?_); rintro e wb ⟨rfl, hbb⟩; have hbB := after_ (after_ hba ((Below.refl wa.heap.size wa).alloc (Nat.le_refl _) _)) hbb))
      | (go_at_call 29; ((with_reducible refine (row_ok _).mono ?_); rintro e wa ⟨GA, gc, PA, pc, rfl, hG, hPq, hba⟩; have kwa := kwd.below hba))
      | (go_at_call 29; ((with_reducible refine (row_ok _).mono ?_); rintro e wa ⟨GA, gc, PA, pc, rfl, hG, hPq, hbo⟩; have hba := after_ hb0 hbo; have kwa := kwd.below hba; have hLa := Sl.of_box (size := 8) (cell := secell) (xs := [⟨M.qB, A2, c2⟩, ⟨M.qC, A3, c3⟩]) (e0.below hbo) rfl; have kk := kR.out wa GA PA gc pc _ 2 kwa hG hPq hLa)))
  all_goals
    replace kw := kwd.below hbB
    replace B4 := after_ Bd hbB
    clear kA K0 K1 kwd Bd hba hbb hbB hG hPq kwa kR e0 hb0
    try clear kk
    try clear hLa
    try clear hbo
    have kR : Hid (∀ wa GA PA gc pc, KW15 wa w3.heap.size (w3.heap.size + 1) (w3.heap.size + 1 + 1) A1 A2 A3 c1 c2 c3 → Sl 1 icell wa wa.heap.size GA (M.rG 9) → Sl 1 icell wa wa.heap.size PA (M.rP 9) → Calls Tryz.prog 23 #[tv 9 1 GA PA 9 gc 9 pc, stv M.qA A1 c1, .slice none 0 0] wa (fun e w' => e = .returned (.tuple #[.int .i64 0, .int .i64 0]) ∧ Below wa.heap.size wa w')) := Lib.hid (fun wa GA PA gc pc kwa hG hPq => by
      have kk := iunion_any 9 1 GA PA gc pc M.mG M.mP M.qA A1 c1 none 0 [] wa kwa.tab hG hPq kwa.s1 Sl.nil_ (fun e he => absurd he (by simp)) (by simp) (by decide) (by decide) (by decide) (fun e he => absurd he (by simp))
      rw [show ([] : List SE).map (·.s) = [] from rfl, M.k15h] at kk
      exact kk)
    go_wp2_with fail
    have kwd : KW15 wb.drew w3.heap.size (w3.heap.size + 1) (w3.heap.size + 1 + 1) A1 A2 A3 c1 c2 c3 := kw.below (Below.refl _ _).drew
    have Bd := B4.drew
    have K0 := kwd.held
    have K1 := kw.held
    have kA : ∀ wa, Below wb.drew.heap.size wb.drew wa → _ := fun wa hba => (kwd.below hba).held
    go_region_held3 (fun w' => w'.cell? ⟨w3.heap.size, 0, none⟩ = some (.int .i64 M.qA.id) ∧ w'.cell? ⟨w3.heap.size, 1, none⟩ = some (.int .i64 M.qA.x) ∧ w'.cell? ⟨w3.heap.size, 2, none⟩ = some (.int .i64 M.qA.y) ∧ w'.cell? ⟨w3.heap.size, 3, none⟩ = some (.int .i64 M.qA.pw) ∧ w'.cell? ⟨w3.heap.size, 4, none⟩ = some (.int .i64 M.qA.h) ∧ w'.cell? ⟨w3.heap.size, 5, none⟩ = some (.slice A1 M.qA.pat.length c1) ∧ w'.cell? ⟨w3.heap.size, 6, none⟩ = some (.int .i64 M.qA.band) ∧ w'.cell? ⟨w3.heap.size, 7, none⟩ = some (.int .i64 M.qA.ch) ∧ w'.cell? ⟨w3.heap.size + 1, 0, none⟩ = some (.int .i64 M.qB.id) ∧ w'.cell? ⟨w3.heap.size + 1, 1, none⟩ = some (.int .i64 M.qB.x) ∧ w'.cell? ⟨w3.heap.size + 1, 2, none⟩ = some (.int .i64 M.qB.y) ∧ w'.cell? ⟨w3.heap.size + 1, 3, none⟩ = some (.int .i64 M.qB.pw) ∧ w'.cell? ⟨w3.heap.size + 1, 4, none⟩ = some (.int .i64 M.qB.h) ∧ w'.cell? ⟨w3.heap.size + 1, 5, none⟩ = some (.slice A2 M.qB.pat.length c2) ∧ w'.cell? ⟨w3.heap.size + 1, 6, none⟩ = some (.int .i64 M.qB.band) ∧ w'.cell? ⟨w3.heap.size + 1, 7, none⟩ = some (.int .i64 M.qB.ch) ∧ w'.cell? ⟨w3.heap.size + 1 + 1, 0, none⟩ = some (.int .i64 M.qC.id) ∧ w'.cell? ⟨w3.heap.size + 1 + 1, 1, none⟩ = some (.int .i64 M.qC.x) ∧ w'.cell? ⟨w3.heap.size + 1 + 1, 2, none⟩ = some (.int .i64 M.qC.y) ∧ w'.cell? ⟨w3.heap.size + 1 + 1, 3, none⟩ = some (.int .i64 M.qC.pw) ∧ w'.cell? ⟨w3.heap.size + 1 + 1, 4, none⟩ = some (.int .i64 M.qC.h) ∧ w'.cell? ⟨w3.heap.size + 1 + 1, 5, none⟩ = some (.slice A3 M.qC.pat.length c3) ∧ w'.cell? ⟨w3.heap.size + 1 + 1, 6, none⟩ = some (.int .i64 M.qC.band) ∧ w'.cell? ⟨w3.heap.size + 1 + 1, 7, none⟩ = some (.int .i64 M.qC.ch)) (first | exact K0 | exact K1 | exact kA _ (by assumption))
    (first
      | (go_at_call 29; ((with_reducible refine (row_ok _).mono ?_); rintro e wa ⟨GA, gc, PA, pc, rfl, hG, hPq, hba⟩; have kwa := kwd.below hba; have kk := kR.out wa GA PA gc pc kwa hG hPq))
      | (go_at_call 23; (refine kk.mono ?_; rintro e wb ⟨rfl, hbb⟩; have hbB := after_ hba hbb)))
    replace kw := kwd.below hbB
    replace B4 := after_ Bd hbB
    clear kA K0 K1 kwd Bd hba hbb hbB hG hPq kwa kk kR
    have r0 : Calls Tryz.prog 10 #[.int .i64 0] wb fun e w' => e = .returned (.tuple #[.int .i64 30, .int .i64 0]) ∧ wb = w' := ratio_ok 0 wb rfl
    have r1 : Calls Tryz.prog 10 #[.int .i64 (-1)] wb fun e w' => e = .returned (.tuple #[.int .i64 (-46), .int .i64 0]) ∧ wb = w' := ratio_ok (-1) wb rfl
    have r2 := ratio_no 2 wb rfl
    go_wp2_with fail
    refine r0.mono ?_
    rintro e w20 ⟨rfl, rfl⟩
    go_wp2_with fail
    refine r1.mono ?_
    rintro e w20 ⟨rfl, rfl⟩
    go_wp2_with fail
    refine r2.mono ?_
    rintro e w20 ⟨rfl, rfl⟩
    clear r0 r1 r2
    have kR : Hid (∀ wa GA PA gc pc, KW15 wa w3.heap.size (w3.heap.size + 1) (w3.heap.size + 1 + 1) A1 A2 A3 c1 c2 c3 → Sl 1 icell wa wa.heap.size GA (M.rG 9) → Sl 1 icell wa wa.heap.size PA (M.rP 9) → Calls Tryz.prog 11 #[tv 9 1 GA PA 9 gc 9 pc, stv M.qA A1 c1, stv M.qB A2 c2, .int .i64 0, .int .i64 9] wa (fun e w' => e = .returned (.tuple #[.bool false, .int .i64 2]) ∧ Below wa.heap.size wa w')) := Lib.hid (fun wa GA PA gc pc kwa hG hPq => by
      have kk := ihit_any 9 1 GA PA gc pc M.mG M.mP M.qA M.qB A1 A2 c1 c2 0 9 wa kwa.tab hG hPq kwa.s1 kwa.s2 (by decide) (by decide) (by decide) (by decide)
      rw [M.k15i] at kk
      exact kk)
    go_wp2_with fail
    have kwd : KW15 wb.drew w3.heap.size (w3.heap.size + 1) (w3.heap.size + 1 + 1) A1 A2 A3 c1 c2 c3 := kw.below (Below.refl _ _).drew
    have Bd := B4.drew
    have K0 := kwd.held
    have K1 := kw.held
    have kA : ∀ wa, Below wb.drew.heap.size wb.drew wa → _ := fun wa hba => (kwd.below hba).held
    go_region_held3 (fun w' => w'.cell? ⟨w3.heap.size, 0, none⟩ = some (.int .i64 M.qA.id) ∧ w'.cell? ⟨w3.heap.size, 1, none⟩ = some (.int .i64 M.qA.x) ∧ w'.cell? ⟨w3.heap.size, 2, none⟩ = some (.int .i64 M.qA.y) ∧ w'.cell? ⟨w3.heap.size, 3, none⟩ = some (.int .i64 M.qA.pw) ∧ w'.cell? ⟨w3.heap.size, 4, none⟩ = some (.int .i64 M.qA.h) ∧ w'.cell? ⟨w3.heap.size, 5, none⟩ = some (.slice A1 M.qA.pat.length c1) ∧ w'.cell? ⟨w3.heap.size, 6, none⟩ = some (.int .i64 M.qA.band) ∧ w'.cell? ⟨w3.heap.size, 7, none⟩ = some (.int .i64 M.qA.ch) ∧ w'.cell? ⟨w3.heap.size + 1, 0, none⟩ = some (.int .i64 M.qB.id) ∧ w'.cell? ⟨w3.heap.size + 1, 1, none⟩ = some (.int .i64 M.qB.x) ∧ w'.cell? ⟨w3.heap.size + 1, 2, none⟩ = some (.int .i64 M.qB.y) ∧ w'.cell? ⟨w3.heap.size + 1, 3, none⟩ = some (.int .i64 M.qB.pw) ∧ w'.cell? ⟨w3.heap.size + 1, 4, none⟩ = some (.int .i64 M.qB.h) ∧ w'.cell? ⟨w3.heap.size + 1, 5, none⟩ = some (.slice A2 M.qB.pat.length c2) ∧ w'.cell? ⟨w3.heap.size + 1, 6, none⟩ = some (.int .i64 M.qB.band) ∧ w'.cell? ⟨w3.heap.size + 1, 7, none⟩ = some (.int .i64 M.qB.ch) ∧ w'.cell? ⟨w3.heap.size + 1 + 1, 0, none⟩ = some (.int .i64 M.qC.id) ∧ w'.cell? ⟨w3.heap.size + 1 + 1, 1, none⟩ = some (.int .i64 M.qC.x) ∧ w'.cell? ⟨w3.heap.size + 1 + 1, 2, none⟩ = some (.int .i64 M.qC.y) ∧ w'.cell? ⟨w3.heap.size + 1 + 1, 3, none⟩ = some (.int .i64 M.qC.pw) ∧ w'.cell? ⟨w3.heap.size + 1 + 1, 4, none⟩ = some (.int .i64 M.qC.h) ∧ w'.cell? ⟨w3.heap.size + 1 + 1, 5, none⟩ = some (.slice A3 M.qC.pat.length c3) ∧ w'.cell? ⟨w3.heap.size + 1 + 1, 6, none⟩ = some (.int .i64 M.qC.band) ∧ w'.cell? ⟨w3.heap.size + 1 + 1, 7, none⟩ = some (.int .i64 M.qC.ch)) (first | exact K0 | exact K1 | exact kA _ (by assumption))
    (first
      | (go_at_call 29; ((with_reducible refine (row_ok _).mono ?_); rintro e wa ⟨GA, gc, PA, pc, rfl, hG, hPq, hba⟩; have kwa := kwd.below hba; have kk := kR.out wa GA PA gc pc kwa hG hPq))
      | (go_at_call 11; (refine kk.mono ?_; rintro e wb ⟨rfl, hbb⟩; have hbB := after_ hba hbb)))
    replace B4 := after_ Bd hbB
    go_wp2_with fail
    go_ret
    exact ⟨rfl, B4⟩
end Go.Proofs.YtohkbblfcjmmnaaGreatDoor
