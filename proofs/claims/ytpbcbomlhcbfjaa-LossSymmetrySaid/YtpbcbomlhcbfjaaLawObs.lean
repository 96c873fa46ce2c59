/- The walks of the laws LossObstructs and LossTotals. -/
import Derived.Test.YtpbcbomlhcbfjaaRef11
namespace Go.Proofs.Ytpbcbomlhcbfjaa
open Go Go.RowKit

set_option maxHeartbeats 4000000 in
theorem lossObstructs_walk (W H : Int) (GA PA : Option Addr) (gc pc : Nat) (G P : List Int) (ax ay f bx by' t : Int) (w : World) (hg : Sl 1 icell w w.heap.size GA G) (hp : Sl 1 icell w w.heap.size PA P) :
    Calls Try.prog 5 #[tv W H GA PA G.length gc P.length pc, cv ax ay, .int .i64 f, cv bx by', .int .i64 t] w (LawTrue w) := by
  obtain ⟨V, HW, x0, x1, x2, hB, -⟩ := boxes3 w #[.int .i64 W, .int .i64 H, .slice GA G.length gc, .slice PA P.length pc] 35 #[.int .i64 ax, .int .i64 ay] 29 #[.int .i64 bx, .int .i64 by'] 29
  have hg1 := (hg.below hB).more hB.size
  have hp1 := (hp.below hB).more hB.size
  go_enter Try.func5, Try.ntmps5
  go_wp2_with fail
  rw [HW.out]
  refine (big_any W H GA PA gc pc G.length P.length V).mono ?_
  rintro e w1 ⟨rfl, hb1⟩
  have B1 := after_ hB hb1
  cases hbig : decide (300 < (G.length : Int)) || decide (300 < (P.length : Int)) with
  | true =>
    go_wp2_with fail
    refine (known_any w1).mono ?_
    rintro e w2 ⟨rfl, hb2⟩
    go_wp2_with fail
    go_ret
    exact ⟨rfl, after_ B1 hb2⟩
  | false =>
    have hgl : G.length ≤ 300 ∧ P.length ≤ 300 := by rw [Bool.or_eq_false_iff] at hbig; simp at hbig; omega
    clear hbig
    have x01 := x0.below hb1
    have x11 := x1.below hb1
    have x21 := x2.below hb1
    have hg2 := (hg1.below hb1).more hb1.size
    have hp2 := (hp1.below hb1).more hb1.size
    obtain ⟨c0, c1, c2, c3⟩ := x01.c4
    obtain ⟨d0, d1⟩ := x11.c2
    obtain ⟨e0, e1⟩ := x21.c2
    go_wp2_with fail
    cases hok : M.okObs W H G P ax ay f bx by' t with
    | false =>
      refine (obs_no W H GA PA gc pc G P ax ay f bx by' t w1 hg2 hp2 (by omega) (by omega) hok).mono ?_
      rintro e w2 ⟨OA, oc, rfl, -, hb2⟩
      have B2 := after_ B1 hb2
      have hg3 := (hg2.below hb2).more hb2.size
      have hp3 := (hp2.below hb2).more hb2.size
      clear c0 c1 c2 c3 d0 d1 e0 e1
      obtain ⟨c0, c1, c2, c3⟩ := (x01.below hb2).c4
      obtain ⟨d0, d1⟩ := (x11.below hb2).c2
      obtain ⟨e0, e1⟩ := (x21.below hb2).c2
      go_wp2_with fail
      refine (allowed_any W H GA PA gc pc G P ax ay f bx by' t w2 hg3 hp3 (by omega)).mono ?_
      rintro e w3 ⟨rfl, hb3⟩
      rw [hok]
      go_wp2_with fail
      refine (known_any w3).mono ?_
      rintro e w4 ⟨rfl, hb4⟩
      go_wp2_with fail
      go_ret
      exact ⟨rfl, after_ (after_ B2 hb3) hb4⟩
    | true =>
      refine (obs_ok W H GA PA gc pc G P ax ay f bx by' t w1 hg2 hp2 hok).mono ?_
      rintro e w2 ⟨OA, oc, rfl, hS2, hb2⟩
      have B2 := after_ B1 hb2
      have hg3 := (hg2.below hb2).more hb2.size
      have hp3 := (hp2.below hb2).more hb2.size
      have x02 := x01.below hb2
      have x12 := x11.below hb2
      have x22 := x21.below hb2
      clear c0 c1 c2 c3 d0 d1 e0 e1
      obtain ⟨c0, c1, c2, c3⟩ := x02.c4
      obtain ⟨d0, d1⟩ := x12.c2
      obtain ⟨e0, e1⟩ := x22.c2
      go_wp2_with fail
      refine (allowed_any W H GA PA gc pc G P ax ay f bx by' t w2 hg3 hp3 (by omega)).mono ?_
      rintro e w3 ⟨rfl, hb3⟩
      rw [hok]
      have B3 := after_ B2 hb3
      have hg4 := (hg3.below hb3).more hb3.size
      have hS3 := (hS2.below hb3).more hb3.size
      clear c0 c1 c2 c3 d0 d1 e0 e1
      obtain ⟨c0, c1, c2, c3⟩ := (x02.below hb3).c4
      obtain ⟨d0, d1⟩ := (x12.below hb3).c2
      obtain ⟨e0, e1⟩ := (x22.below hb3).c2
      go_wp2_with fail
      refine (rObs_ok W H GA PA gc pc G P ax ay f bx by' t w3 hg4 hok).mono ?_
      rintro e w4 ⟨RA, rc, rfl, hS4, hb4⟩
      have B4 := after_ B3 hb4
      have hS5 := (hS3.below hb4).more hb4.size
      have hol := M.obstTo_length W G ax ay f bx by' t (M.lineN ax ay bx by')
      have hll : M.lineN ax ay bx by' ≤ 62 := by
        obtain ⟨-, -, hv, hia, hib⟩ := M.okObs_iff.1 hok
        obtain ⟨t1, t2, -⟩ := M.tvalid_iff.1 hv
        obtain ⟨a1, a2⟩ := M.c63_of t1 t2 hia
        obtain ⟨b1, b2⟩ := M.c63_of t1 t2 hib
        have := M.span_bd a1 a2 b1 b2
        unfold M.lineN; omega
      have hol2 : (M.obst W G ax ay f bx by' t).length ≤ 62 := Nat.le_trans hol hll
      clear c0 c1 c2 c3 d0 d1 e0 e1 hol hll
      generalize M.obst W G ax ay f bx by' t = O at *
      go_wp2_with fail
      refine (same_any OA RA oc rc _ O O w4 hS5 hS4 (by omega)).mono ?_
      rintro e w5 ⟨rfl, n5, rfl⟩
      rw [decide_eq_true rfl]
      have B5 := below_drewN B4 n5
      go_wp2_with fail
      refine (known_any _).mono ?_
      rintro e w6 ⟨rfl, hb6⟩
      go_wp2_with fail
      go_ret
      exact ⟨rfl, after_ B5 hb6⟩

set_option maxHeartbeats 4000000 in
theorem lossTotals_walk (W H : Int) (GA PA : Option Addr) (gc pc : Nat) (G P : List Int) (ax ay f bx by' t : Int) (w : World) (hg : Sl 1 icell w w.heap.size GA G) (hp : Sl 1 icell w w.heap.size PA P) :
    Calls Try.prog 6 #[tv W H GA PA G.length gc P.length pc, cv ax ay, .int .i64 f, cv bx by', .int .i64 t] w (LawTrue w) := by
  obtain ⟨V, HW, x0, x1, x2, hB, -⟩ := boxes3 w #[.int .i64 W, .int .i64 H, .slice GA G.length gc, .slice PA P.length pc] 35 #[.int .i64 ax, .int .i64 ay] 29 #[.int .i64 bx, .int .i64 by'] 29
  have hg1 := (hg.below hB).more hB.size
  have hp1 := (hp.below hB).more hB.size
  go_enter Try.func6, Try.ntmps6
  go_wp2_with fail
  rw [HW.out]
  refine (big_any W H GA PA gc pc G.length P.length V).mono ?_
  rintro e w1 ⟨rfl, hb1⟩
  have B1 := after_ hB hb1
  cases hbig : decide (300 < (G.length : Int)) || decide (300 < (P.length : Int)) with
  | true =>
    go_wp2_with fail
    refine (known_any w1).mono ?_
    rintro e w2 ⟨rfl, hb2⟩
    go_wp2_with fail
    go_ret
    exact ⟨rfl, after_ B1 hb2⟩
  | false =>
    have hgl : G.length ≤ 300 ∧ P.length ≤ 300 := by rw [Bool.or_eq_false_iff] at hbig; simp at hbig; omega
    clear hbig
    have x01 := x0.below hb1
    have x11 := x1.below hb1
    have x21 := x2.below hb1
    have hg2 := (hg1.below hb1).more hb1.size
    have hp2 := (hp1.below hb1).more hb1.size
    obtain ⟨c0, c1, c2, c3⟩ := x01.c4
    obtain ⟨d0, d1⟩ := x11.c2
    obtain ⟨e0, e1⟩ := x21.c2
    go_wp2_with fail
    cases hok : M.okObs W H G P ax ay f bx by' t with
    | false =>
      refine (total_no W H GA PA gc pc G P ax ay f bx by' t w1 hg2 hp2 (by omega) (by omega) hok).mono ?_
      rintro e w2 ⟨rfl, hb2⟩
      have B2 := after_ B1 hb2
      have hg3 := (hg2.below hb2).more hb2.size
      have hp3 := (hp2.below hb2).more hb2.size
      clear c0 c1 c2 c3 d0 d1 e0 e1
      obtain ⟨c0, c1, c2, c3⟩ := (x01.below hb2).c4
      obtain ⟨d0, d1⟩ := (x11.below hb2).c2
      obtain ⟨e0, e1⟩ := (x21.below hb2).c2
      go_wp2_with fail
      refine (allowed_any W H GA PA gc pc G P ax ay f bx by' t w2 hg3 hp3 (by omega)).mono ?_
      rintro e w3 ⟨rfl, hb3⟩
      rw [hok]
      go_wp2_with fail
      refine (known_any w3).mono ?_
      rintro e w4 ⟨rfl, hb4⟩
      go_wp2_with fail
      go_ret
      exact ⟨rfl, after_ (after_ B2 hb3) hb4⟩
    | true =>
      refine (total_ok W H GA PA gc pc G P ax ay f bx by' t w1 hg2 hp2 hok).mono ?_
      rintro e w2 ⟨rfl, hb2⟩
      have B2 := after_ B1 hb2
      have hg3 := (hg2.below hb2).more hb2.size
      have hp3 := (hp2.below hb2).more hb2.size
      have x02 := x01.below hb2
      have x12 := x11.below hb2
      have x22 := x21.below hb2
      clear c0 c1 c2 c3 d0 d1 e0 e1
      obtain ⟨c0, c1, c2, c3⟩ := x02.c4
      obtain ⟨d0, d1⟩ := x12.c2
      obtain ⟨e0, e1⟩ := x22.c2
      go_wp2_with fail
      refine (allowed_any W H GA PA gc pc G P ax ay f bx by' t w2 hg3 hp3 (by omega)).mono ?_
      rintro e w3 ⟨rfl, hb3⟩
      rw [hok]
      have B3 := after_ B2 hb3
      have hg4 := (hg3.below hb3).more hb3.size
      clear c0 c1 c2 c3 d0 d1 e0 e1
      obtain ⟨c0, c1, c2, c3⟩ := (x02.below hb3).c4
      obtain ⟨d0, d1⟩ := (x12.below hb3).c2
      obtain ⟨e0, e1⟩ := (x22.below hb3).c2
      go_wp2_with fail
      refine (rTotal_ok W H GA PA gc pc G P ax ay f bx by' t w3 hg4 hok).mono ?_
      rintro e w4 ⟨rfl, hb4⟩
      have B4 := after_ B3 hb4
      clear c0 c1 c2 c3 d0 d1 e0 e1
      generalize M.tot W G ax ay f bx by' t = O at *
      have q : (O == O) = true := by simp
      go_wp2_with fail
      refine (known_any _).mono ?_
      rintro e w6 ⟨rfl, hb6⟩
      go_wp2_with fail
      go_ret
      exact ⟨rfl, after_ B4 hb6⟩
end Go.Proofs.Ytpbcbomlhcbfjaa
