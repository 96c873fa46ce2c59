/- A bundle of texts: Kn16b, Lw6. -/
import Derived.Test.YtciolgmljpamlaaGreatDoorB43
import Derived.Test.YtciolgmljpamlaaGreatDoorB34
/- The law package of layer 16: the walk of known. -/
section
namespace Go.Proofs.YtciolgmljpamlaaGreatDoor
open Go Go.RowKit
set_option maxRecDepth 100000

set_option maxHeartbeats 64000000 in
theorem known16_any (w : World) (ht : Tab w) : Calls Tryz.prog 16 #[] w fun e w' => e = .returned (.bool true) ∧ Below w.heap.size w w' := by
  go_enter Tryz.func16, Tryz.ntmps16
  go_wp2_with fail
  have k0 : Calls Tryz.prog 54 #[.int .i64 1, .int .i64 2, .int .i64 101] w fun e w' => ∃ A c, e = .returned (stv M.kA A c) ∧ Sl 1 icell w' w'.heap.size A M.kA.pat ∧ Below w.heap.size w w' := at16_ok 1 2 101 w
  refine k0.mono ?_
  rintro e w1 ⟨A1, c1, rfl, S1, hb1⟩
  clear k0
  go_wp2_with fail
  have k1 : Calls Tryz.prog 54 #[.int .i64 2, .int .i64 8, .int .i64 101] w1 fun e w' => ∃ A c, e = .returned (stv M.kB A c) ∧ Sl 1 icell w' w'.heap.size A M.kB.pat ∧ Below w1.heap.size w1 w' := at16_ok 2 8 101 w1
  refine k1.mono ?_
  rintro e w2 ⟨A2, c2, rfl, S2, hb2⟩
  clear k1
  go_wp2_with fail
  have k2 : Calls Tryz.prog 54 #[.int .i64 3, .int .i64 8, .int .i64 82] w2 fun e w' => ∃ A c, e = .returned (stv M.kC A c) ∧ Sl 1 icell w' w'.heap.size A M.kC.pat ∧ Below w2.heap.size w2 w' := at16_ok 3 8 82 w2
  refine k2.mono ?_
  rintro e w3 ⟨A3, c3, rfl, S3, hb3⟩
  clear k2
  skip
  have B3 := after_ (after_ hb1 hb2) hb3
  obtain ⟨V, HV, xa, xb, xc0, hbV, -⟩ := boxes3 w3 (stc M.kA A1 c1) 40 (stc M.kB A2 c2) 40 (stc M.kC A3 c3) 40
  have BV := after_ B3 hbV
  have kw : K16 w V w3.heap.size (w3.heap.size + 1) (w3.heap.size + 1 + 1) A1 A2 A3 c1 c2 c3 := ⟨xa, xb, xc0, (((((S1.below hb2).more hb2.size).below hb3).more hb3.size).below hbV).more hbV.size, (((S2.below hb3).more hb3.size).below hbV).more hbV.size, (S3.below hbV).more hbV.size, ht.kept BV, BV⟩
  clear S1 S2 S3 xa xb xc0 hb1 hb2 hb3 hbV B3 BV
  have h3 := HV.out
  skip
  obtain ⟨x0, x1, x2, x3, x4, x5, x6, x7⟩ := kw.a.c8
  obtain ⟨y0, y1, y2, y3, y4, y5, y6, y7⟩ := kw.b.c8
  go_wp2_with fail
  clear h3
  clear x0 x1 x2 x3 x4 x5 x6 x7 y0 y1 y2 y3 y4 y5 y6 y7
  refine (forbids16_ok M.kA M.kB A1 A2 c1 c2 0 true V kw.tab kw.s1 kw.s2 (by decide) (by decide) M.k16a).mono ?_
  rintro e w4 ⟨rfl, hbx⟩
  replace kw := kw.next hbx
  clear hbx
  obtain ⟨x0, x1, x2, x3, x4, x5, x6, x7⟩ := kw.a.c8
  obtain ⟨y0, y1, y2, y3, y4, y5, y6, y7⟩ := kw.b.c8
  go_wp2_with fail
  clear x0 x1 x2 x3 x4 x5 x6 x7 y0 y1 y2 y3 y4 y5 y6 y7
  refine (forbids16_ok M.kA M.kB A1 A2 c1 c2 1 false w4 kw.tab kw.s1 kw.s2 (by decide) (by decide) M.k16b).mono ?_
  rintro e w5 ⟨rfl, hbx⟩
  replace kw := kw.next hbx
  clear hbx
  obtain ⟨x0, x1, x2, x3, x4, x5, x6, x7⟩ := kw.a.c8
  obtain ⟨y0, y1, y2, y3, y4, y5, y6, y7⟩ := kw.c.c8
  go_wp2_with fail
  clear x0 x1 x2 x3 x4 x5 x6 x7 y0 y1 y2 y3 y4 y5 y6 y7
  refine (forbids16_ok M.kA M.kC A1 A3 c1 c3 0 false w5 kw.tab kw.s1 kw.s3 (by decide) (by decide) M.k16c).mono ?_
  rintro e w6 ⟨rfl, hbx⟩
  replace kw := kw.next hbx
  clear hbx
  obtain ⟨w7, HP, po, hbx, -⟩ := boxes1 w6 #[.int .i64 1, .int .i64 2, .int .i64 0, .int .i64 14, .int .i64 51] 66
  replace kw := kw.next hbx
  have hP := HP.out
  go_wp2_with fail
  clear hbx hP
  go_upto_region 5 with fail
  refine kn16_reg5 w w7 _ _ _ A1 A2 A3 c1 c2 c3 kw (by kernel_rfl) ?_
  rintro z36 z37 z38 z39 z40 z41 z42 z43 wo1 b1 XA1 YA1 ZA1 xc1 yc1 zc1 rx1 hcx
  replace kw := kw.next hcx
  replace po := po.below hcx
  clear hcx
  go_upto_region 6 with fail
  refine kn16_reg6 w wo1 _ _ _ A1 A2 A3 c1 c2 c3 kw (by kernel_rfl) ?_
  rintro z44 z45 z46 z47 z48 z49 z50 z51 wo2 b2 XA2 YA2 ZA2 xc2 yc2 zc2 rx2 hcx
  replace kw := kw.next hcx
  replace po := po.below hcx
  replace rx1 := rx1.next hcx
  clear hcx
  go_upto_region 7 with fail
  refine kn16_reg7 w wo2 _ _ _ A1 A2 A3 c1 c2 c3 kw (by kernel_rfl) ?_
  rintro z52 z53 z54 z55 z56 z57 z58 z59 wo3 b3 XA3 YA3 ZA3 xc3 yc3 zc3 rx3 hcx
  replace kw := kw.next hcx
  replace po := po.below hcx
  replace rx1 := rx1.next hcx
  replace rx2 := rx2.next hcx
  clear hcx
  go_upto_region 8 with fail
  refine kn16_reg8 w wo3 _ _ _ A1 A2 A3 c1 c2 c3 kw (by kernel_rfl) ?_
  rintro z60 z61 z62 z63 z64 z65 z66 wo4 b4 XA4 YA4 ZA4 xc4 yc4 zc4 rx4 hcx
  replace kw := kw.next hcx
  replace po := po.below hcx
  replace rx1 := rx1.next hcx
  replace rx2 := rx2.next hcx
  replace rx3 := rx3.next hcx
  clear hcx
  clear rx3 rx4
  obtain ⟨y0, y1, y2⟩ := rx1.box.c3
  obtain ⟨z0, z1, z2, z3, z4⟩ : _ ∧ _ ∧ _ ∧ _ ∧ _ := ⟨po.cell 0 rfl, po.cell 1 rfl, po.cell 2 rfl, po.cell 3 rfl, po.cell 4 rfl⟩
  obtain ⟨u1, Hu1, q0, hbx, -⟩ := boxes1 wo4 #[.int .i64 1, .int .i64 2, .int .i64 0, .int .i64 14, .int .i64 51] 66
  replace kw := kw.next hbx
  replace po := po.below hbx
  replace rx1 := rx1.next hbx
  replace rx2 := rx2.next hbx
  have sq : Sl 5 p5cell u1 u1.heap.size (some ⟨wo4.heap.size, 0, none⟩) [M.one] := Sl.of_box q0 rfl
  have kS := same16_any XA1 YA1 ZA1 (some ⟨wo4.heap.size, 0, none⟩) none none xc1 yc1 zc1 1 0 0 [M.one] [] [] [M.one] [] [] u1 rx1.r ⟨sq, Sl.nil_, Sl.nil_⟩ (by decide)
  rw [decide_eq_true (p := [M.one] = [M.one] ∧ ([] : List P5) = [] ∧ ([] : List P4) = []) ⟨rfl, rfl, rfl⟩] at kS
  have hu := Hu1.out
  go_wp2_with fail
  clear hu y0 y1 y2 z0 z1 z2 z3 z4
  refine kS.mono ?_
  rintro e v1 ⟨rfl, hbx⟩
  clear kS q0 sq
  replace kw := kw.next hbx
  replace po := po.below hbx
  replace rx1 := rx1.next hbx
  replace rx2 := rx2.next hbx
  clear hbx
  obtain ⟨y0, y1, y2⟩ := rx2.box.c3
  obtain ⟨u2, Hu2, q0, q1, hbx, -⟩ := boxes2 v1 #[.int .i64 1, .int .i64 3, .int .i64 5, .int .i64 14, .int .i64 51] 68 #[.int .i64 1, .int .i64 10, .int .i64 14, .int .i64 51] 71
  replace kw := kw.next hbx
  replace po := po.below hbx
  replace rx1 := rx1.next hbx
  replace rx2 := rx2.next hbx
  have sl : Sl 5 p5cell u2 u2.heap.size (some ⟨v1.heap.size, 0, none⟩) [M.lone] := Sl.of_box q0 rfl
  have sc : Sl 4 p4cell u2 u2.heap.size (some ⟨v1.heap.size + 1, 0, none⟩) [M.cone] := Sl.of_box q1 rfl
  have kS := same16_any XA2 YA2 ZA2 none (some ⟨v1.heap.size, 0, none⟩) (some ⟨v1.heap.size + 1, 0, none⟩) xc2 yc2 zc2 0 1 1 [] [M.lone] [M.cone] [] [M.lone] [M.cone] u2 rx2.r ⟨Sl.nil_, sl, sc⟩ (by decide)
  rw [decide_eq_true (p := ([] : List P5) = [] ∧ [M.lone] = [M.lone] ∧ [M.cone] = [M.cone]) ⟨rfl, rfl, rfl⟩] at kS
  have hu := Hu2.out
  go_wp2_with fail
  clear hu y0 y1 y2
  refine kS.mono ?_
  rintro e v2 ⟨rfl, hbx⟩
  clear kS q0 q1 sl sc
  replace kw := kw.next hbx
  replace po := po.below hbx
  replace rx1 := rx1.next hbx
  replace rx2 := rx2.next hbx
  clear hbx rx2
  obtain ⟨z0, z1, z2, z3, z4⟩ : _ ∧ _ ∧ _ ∧ _ ∧ _ := ⟨po.cell 0 rfl, po.cell 1 rfl, po.cell 2 rfl, po.cell 3 rfl, po.cell 4 rfl⟩
  obtain ⟨u3, Hu3, q0, hbx, -⟩ := boxes1 v2 #[.int .i64 1, .int .i64 2, .int .i64 0, .int .i64 2, .int .i64 6, .int .i64 1, .int .i64 2, .int .i64 0, .int .i64 14, .int .i64 51] 66
  replace kw := kw.next hbx
  replace po := po.below hbx
  replace rx1 := rx1.next hbx
  have st : Sl 5 p5cell u3 u3.heap.size (some ⟨v2.heap.size, 0, none⟩) [M.two, M.one] := Sl.of_box q0 rfl
  have kJ := join_any XA1 YA1 ZA1 (some ⟨v2.heap.size, 0, none⟩) none none xc1 yc1 zc1 2 0 0 [M.one] [] [] [M.two, M.one] [] [] u3 rx1.r ⟨st, Sl.nil_, Sl.nil_⟩ rx1.cap (by decide) (by decide) (by decide)
  rw [M.k16j] at kJ
  obtain ⟨y0, y1, y2⟩ := rx1.box.c3
  have hu := Hu3.out
  go_wp2_with fail
  clear hu y0 y1 y2 z0 z1 z2 z3 z4
  refine kJ.mono ?_
  rintro e v3 ⟨JA, jc, KA, kc, LA, lc, rfl, jr, jcap, hbx, -⟩
  clear kJ
  replace kw := kw.next hbx
  replace po := po.below hbx
  replace rx1 := rx1.next hbx
  replace st := (st.below hbx).more hbx.size
  clear hbx
  obtain ⟨u4, Hu4, jb, hbx, -⟩ := boxes1 v3 #[.slice JA 2 jc, .slice KA 0 kc, .slice LA 0 lc] 30
  replace kw := kw.next hbx
  replace po := po.below hbx
  replace rx1 := rx1.next hbx
  replace jr := jr.next hbx
  replace st := (st.below hbx).more hbx.size
  clear hbx
  have kN := neighbours_ok JA KA LA jc kc lc [M.two, M.one] [] [] 2 u4 jr (by decide) M.k16v (by decide)
  rw [M.k16n] at kN
  obtain ⟨y0, y1, y2⟩ := jb.c3
  have hu := Hu4.out
  go_wp2_with fail
  clear hu y0 y1 y2
  refine kN.mono ?_
  rintro e v4 ⟨NA, nc, rfl, SN, hbx⟩
  clear kN
  replace kw := kw.next hbx
  replace po := po.below hbx
  replace rx1 := rx1.next hbx
  replace jr := jr.next hbx
  replace jb := jb.below hbx
  replace st := (st.below hbx).more hbx.size
  clear hbx
  have kS := same16_any JA KA LA (some ⟨v2.heap.size, 0, none⟩) none none jc kc lc 2 0 0 [M.two, M.one] [] [] [M.two, M.one] [] [] v4 jr ⟨st, Sl.nil_, Sl.nil_⟩ (by decide)
  rw [decide_eq_true (p := [M.two, M.one] = [M.two, M.one] ∧ ([] : List P5) = [] ∧ ([] : List P4) = []) ⟨rfl, rfl, rfl⟩] at kS
  obtain ⟨y0, y1, y2⟩ := jb.c3
  go_wp2_with fail
  clear y0 y1 y2
  refine kS.mono ?_
  rintro e v5 ⟨rfl, hbx⟩
  clear kS
  obtain ⟨an, rfl, hnb, cn⟩ := (SN.below hbx).int_at (k := 0) (by decide)
  replace cn : v5.cell? an = some (.int .i64 1) := by simpa [Addr.add_zero'] using cn
  replace kw := kw.next hbx
  replace po := po.below hbx
  replace rx1 := rx1.next hbx
  go_wp2_with fail
  go_ret
  exact ⟨rfl, kw.below⟩
end Go.Proofs.YtciolgmljpamlaaGreatDoor
end

/- What the laws of layer 16 carry. -/
section
namespace Go.Proofs.YtciolgmljpamlaaGreatDoor
open Go Go.RowKit
set_option maxRecDepth 100000

structure LW6 (w0 w : World) : Prop where
  tab : Tab w
  below : Below w0.heap.size w0 w
theorem LW6.next {w0 w w' : World} (h : LW6 w0 w) (hb : Below w.heap.size w w') : LW6 w0 w' := ⟨h.tab.kept hb, after_ h.below hb⟩
theorem LW6.known {w0 w : World} (h : LW6 w0 w) : Calls Tryz.prog 16 #[] w fun e w' => e = .returned (.bool true) ∧ Below w0.heap.size w0 w' :=
  (known16_any w h.tab).mono fun _ _ ⟨he, hb⟩ => ⟨he, after_ h.below hb⟩
/-- Boxed constraints. -/
structure R6 (w : World) (b : Nat) (XA YA ZA : Option Addr) (xc yc zc : Nat) (ps ls : List P5) (cs : List P4) : Prop where
  box : Box w b #[.slice XA ps.length xc, .slice YA ls.length yc, .slice ZA cs.length zc] 30
  r : RW w XA YA ZA ps ls cs
  cap : ps.length ≤ xc ∧ ls.length ≤ yc ∧ cs.length ≤ zc
theorem R6.next {w w' : World} {b : Nat} {XA YA ZA : Option Addr} {xc yc zc : Nat} {ps ls : List P5} {cs : List P4} (h : R6 w b XA YA ZA xc yc zc ps ls cs) (hb : Below w.heap.size w w') : R6 w' b XA YA ZA xc yc zc ps ls cs := ⟨h.box.below hb, h.r.next hb, h.cap⟩
theorem M.joinR_len (a1 a2 : List P5) (a3 : List P4) (b1 b2 : List P5) (b3 : List P4) : (M.joinR a1 a2 a3 b1 b2 b3).1.1.length ≤ 4096 ∧ (M.joinR a1 a2 a3 b1 b2 b3).1.2.1.length ≤ 1024 ∧ (M.joinR a1 a2 a3 b1 b2 b3).1.2.2.length ≤ 1024 := by
  unfold M.joinR
  split
  · split
    · simp
    · rename_i h; simp only; omega
  · simp
theorem M.small6 {n m k t : Nat} {b : Bool} (h : (decide ((n : Int) ≤ (t : Int)) && decide ((m : Int) ≤ (t : Int)) && decide ((k : Int) ≤ (t : Int))) = b) : b = true → n ≤ t ∧ m ≤ t ∧ k ≤ t := fun hb => by
  subst hb
  simp only [Bool.and_eq_true, decide_eq_true_eq] at h
  omega
end Go.Proofs.YtciolgmljpamlaaGreatDoor
end
