/- The walk of the law LossSymmetry. -/
import Derived.Test.YtpbcbomlhcbfjaaLawObs
namespace Go.Proofs.Ytpbcbomlhcbfjaa
open Go Go.RowKit

theorem M.nd_mono {m n : Nat} (h : m ≤ n) : M.nd m ≤ M.nd n := M.nd_le.2 (Nat.lt_of_le_of_lt h (M.nd_le.1 (Nat.le_refl _)))
theorem M.free_mono {m n : Nat} (h : m ≤ n) : M.free m ≤ M.free n := by
  unfold M.free
  by_cases h0 : m = 0
  · rw [if_pos h0]; omega
  · rw [if_neg h0, if_neg (by omega)]
    have := M.nd_mono (Nat.pow_le_pow_left h 20)
    omega
theorem M.tot_comm (W : Int) (G : List Int) (ax ay f bx by' t : Int) : M.tot W G bx by' t ax ay f = M.tot W G ax ay f bx by' t := by
  unfold M.tot; rw [M.sq_comm, M.obst_rev, List.length_reverse]
theorem M.okObs_comm {W H : Int} {G P : List Int} {ax ay f bx by' t : Int} (h : M.okObs W H G P ax ay f bx by' t = true) : M.okObs W H G P bx by' t ax ay f = true := by
  obtain ⟨a, b, c, d, e⟩ := M.okObs_iff.1 h
  exact M.okObs_iff.2 ⟨b, a, c, e, d⟩
theorem M.sub_skip {α : Type} {o l : α} {O L : List α} (h : List.Sublist (o :: O) (l :: L)) (hne : l ≠ o) : List.Sublist (o :: O) L := by
  cases h with
  | cons _ h => exact h
  | cons_cons _ h => exact absurd rfl hne
theorem M.sub_at {α : Type} {O L : List α} {i at' : Nat} (h : List.Sublist (O.drop i) (L.drop at')) (hi : i < O.length) : at' < L.length := by
  apply Nat.lt_of_not_le
  intro hle
  rw [List.drop_eq_nil_of_le hle] at h
  have := List.sublist_nil.1 h
  have := List.drop_eq_nil_iff.1 this
  omega
theorem M.sub_step {α : Type} {O L : List α} {i at' : Nat} (h : List.Sublist (O.drop i) (L.drop at')) (hi : i < O.length) (ha : at' < L.length) (hne : L[at'] ≠ O[i]) : List.Sublist (O.drop i) (L.drop (at' + 1)) := by
  rw [List.drop_eq_getElem_cons hi] at h ⊢
  rw [List.drop_eq_getElem_cons ha] at h
  exact M.sub_skip h hne
theorem M.sub_next {α : Type} {O L : List α} {i at' : Nat} (h : List.Sublist (O.drop i) (L.drop at')) (hi : i < O.length) : List.Sublist (O.drop (i + 1)) (L.drop at') := by
  rw [List.drop_eq_getElem_cons hi] at h
  exact (List.sublist_cons_self _ _).trans h

set_option maxRecDepth 100000 in
set_option maxHeartbeats 4000000 in
theorem lossSym_big (W H : Int) (GA PA : Option Addr) (gc pc : Nat) (G P : List Int) (ax ay f bx by' t more one two : Int) (w : World) (hg : Sl 1 icell w w.heap.size GA G) (hp : Sl 1 icell w w.heap.size PA P) (hbig : (decide (300 < (G.length : Int)) || decide (300 < (P.length : Int))) = true) :
    Calls Try.prog 7 #[tv W H GA PA G.length gc P.length pc, cv ax ay, .int .i64 f, cv bx by', .int .i64 t, .int .i64 more, .int .i64 one, .int .i64 two] w (LawTrue w) := by
  obtain ⟨V, HW, x0, x1, x2, hB, -⟩ := boxes3 w #[.int .i64 W, .int .i64 H, .slice GA G.length gc, .slice PA P.length pc] 35 #[.int .i64 ax, .int .i64 ay] 29 #[.int .i64 bx, .int .i64 by'] 29
  have hg1 := (hg.below hB).more hB.size
  have hp1 := (hp.below hB).more hB.size
  have HQ := Lib.hid hbig
  clear hbig
  go_enter Try.func7, Try.ntmps7
  go_wp2_with fail
  rw [HW.out]
  refine (big_any W H GA PA gc pc G.length P.length V).mono ?_
  rintro e w1 ⟨rfl, hb1⟩
  have B1 := after_ hB hb1
  rw [HQ.out]
  go_wp2_with fail
  refine (known_any _).mono ?_
  rintro e w9 ⟨rfl, hb9⟩
  go_wp2_with fail
  go_ret
  exact ⟨rfl, after_ B1 hb9⟩

set_option maxRecDepth 100000 in
set_option maxHeartbeats 8000000 in
theorem lossSym_no (W H : Int) (GA PA : Option Addr) (gc pc : Nat) (G P : List Int) (ax ay f bx by' t more one two : Int) (w : World) (hg : Sl 1 icell w w.heap.size GA G) (hp : Sl 1 icell w w.heap.size PA P) (hgl : G.length ≤ 300 ∧ P.length ≤ 300) (hok : M.okObs W H G P ax ay f bx by' t = false) :
    Calls Try.prog 7 #[tv W H GA PA G.length gc P.length pc, cv ax ay, .int .i64 f, cv bx by', .int .i64 t, .int .i64 more, .int .i64 one, .int .i64 two] w (LawTrue w) := by
  obtain ⟨V, HW, x0, x1, x2, hB, -⟩ := boxes3 w #[.int .i64 W, .int .i64 H, .slice GA G.length gc, .slice PA P.length pc] 35 #[.int .i64 ax, .int .i64 ay] 29 #[.int .i64 bx, .int .i64 by'] 29
  have hg1 := (hg.below hB).more hB.size
  have hp1 := (hp.below hB).more hB.size
  have HQ : Hid ((decide (300 < (G.length : Int)) || decide (300 < (P.length : Int))) = false) := Lib.hid (by rw [Bool.or_eq_false_iff]; simp; omega)
  have HO := Lib.hid hok
  clear hok
  go_enter Try.func7, Try.ntmps7
  go_wp2_with fail
  rw [HW.out]
  refine (big_any W H GA PA gc pc G.length P.length V).mono ?_
  rintro e w1 ⟨rfl, hb1⟩
  have B1 := after_ hB hb1
  rw [HQ.out]
  have x01 := x0.below hb1
  have x11 := x1.below hb1
  have x21 := x2.below hb1
  have hg2 := (hg1.below hb1).more hb1.size
  have hp2 := (hp1.below hb1).more hb1.size
  obtain ⟨c0, c1, c2, c3⟩ := x01.c4
  obtain ⟨d0, d1⟩ := x11.c2
  obtain ⟨e0, e1⟩ := x21.c2
  go_wp2_with fail
  refine (allowed_any W H GA PA gc pc G P ax ay f bx by' t w1 hg2 hp2 (by omega)).mono ?_
  rintro e w2 ⟨rfl, hb2⟩
  have B2 := after_ B1 hb2
  rw [HO.out]
  go_wp2_with fail
  refine (known_any _).mono ?_
  rintro e w9 ⟨rfl, hb9⟩
  go_wp2_with fail
  go_ret
  exact ⟨rfl, after_ B2 hb9⟩

set_option maxRecDepth 100000 in
set_option maxHeartbeats 8000000 in
theorem lossSym_n0 (W H : Int) (GA PA : Option Addr) (gc pc : Nat) (G P : List Int) (ax ay f bx by' t more one two : Int) (w : World) (hg : Sl 1 icell w w.heap.size GA G) (hp : Sl 1 icell w w.heap.size PA P) (hgl : G.length ≤ 300 ∧ P.length ≤ 300) (hok : M.okObs W H G P ax ay f bx by' t = true)  (n0 : more < 0) :
    Calls Try.prog 7 #[tv W H GA PA G.length gc P.length pc, cv ax ay, .int .i64 f, cv bx by', .int .i64 t, .int .i64 more, .int .i64 one, .int .i64 two] w (LawTrue w) := by
  obtain ⟨V, HW, x0, x1, x2, hB, -⟩ := boxes3 w #[.int .i64 W, .int .i64 H, .slice GA G.length gc, .slice PA P.length pc] 35 #[.int .i64 ax, .int .i64 ay] 29 #[.int .i64 bx, .int .i64 by'] 29
  have hg1 := (hg.below hB).more hB.size
  have hp1 := (hp.below hB).more hB.size
  have HQ : Hid ((decide (300 < (G.length : Int)) || decide (300 < (P.length : Int))) = false) := Lib.hid (by rw [Bool.or_eq_false_iff]; simp; omega)
  have HO := Lib.hid hok
  obtain ⟨hf, ht, -⟩ := M.okObs_iff.1 hok
  clear hok
  have q0 : decide (more < 0) = true := decide_eq_true n0
  go_enter Try.func7, Try.ntmps7
  go_wp2_with fail
  rw [HW.out]
  refine (big_any W H GA PA gc pc G.length P.length V).mono ?_
  rintro e w1 ⟨rfl, hb1⟩
  have B1 := after_ hB hb1
  rw [HQ.out]
  have x01 := x0.below hb1
  have x11 := x1.below hb1
  have x21 := x2.below hb1
  have hg2 := (hg1.below hb1).more hb1.size
  have hp2 := (hp1.below hb1).more hb1.size
  obtain ⟨c0, c1, c2, c3⟩ := x01.c4
  obtain ⟨d0, d1⟩ := x11.c2
  obtain ⟨e0, e1⟩ := x21.c2
  go_wp2_with fail
  refine (allowed_any W H GA PA gc pc G P ax ay f bx by' t w1 hg2 hp2 (by omega)).mono ?_
  rintro e w2 ⟨rfl, hb2⟩
  have B2 := after_ B1 hb2
  rw [HO.out]
  go_wp2_with fail
  refine (known_any _).mono ?_
  rintro e w9 ⟨rfl, hb9⟩
  go_wp2_with fail
  go_ret
  exact ⟨rfl, after_ B2 hb9⟩

set_option maxRecDepth 100000 in
set_option maxHeartbeats 8000000 in
theorem lossSym_n1 (W H : Int) (GA PA : Option Addr) (gc pc : Nat) (G P : List Int) (ax ay f bx by' t more one two : Int) (w : World) (hg : Sl 1 icell w w.heap.size GA G) (hp : Sl 1 icell w w.heap.size PA P) (hgl : G.length ≤ 300 ∧ P.length ≤ 300) (hok : M.okObs W H G P ax ay f bx by' t = true) (n0 : ¬ more < 0) (n1 : 500 < more) :
    Calls Try.prog 7 #[tv W H GA PA G.length gc P.length pc, cv ax ay, .int .i64 f, cv bx by', .int .i64 t, .int .i64 more, .int .i64 one, .int .i64 two] w (LawTrue w) := by
  obtain ⟨V, HW, x0, x1, x2, hB, -⟩ := boxes3 w #[.int .i64 W, .int .i64 H, .slice GA G.length gc, .slice PA P.length pc] 35 #[.int .i64 ax, .int .i64 ay] 29 #[.int .i64 bx, .int .i64 by'] 29
  have hg1 := (hg.below hB).more hB.size
  have hp1 := (hp.below hB).more hB.size
  have HQ : Hid ((decide (300 < (G.length : Int)) || decide (300 < (P.length : Int))) = false) := Lib.hid (by rw [Bool.or_eq_false_iff]; simp; omega)
  have HO := Lib.hid hok
  obtain ⟨hf, ht, -⟩ := M.okObs_iff.1 hok
  clear hok
  have q0 : decide (more < 0) = false := decide_eq_false n0
  have q1 : decide (500 < more) = true := decide_eq_true n1
  go_enter Try.func7, Try.ntmps7
  go_wp2_with fail
  rw [HW.out]
  refine (big_any W H GA PA gc pc G.length P.length V).mono ?_
  rintro e w1 ⟨rfl, hb1⟩
  have B1 := after_ hB hb1
  rw [HQ.out]
  have x01 := x0.below hb1
  have x11 := x1.below hb1
  have x21 := x2.below hb1
  have hg2 := (hg1.below hb1).more hb1.size
  have hp2 := (hp1.below hb1).more hb1.size
  obtain ⟨c0, c1, c2, c3⟩ := x01.c4
  obtain ⟨d0, d1⟩ := x11.c2
  obtain ⟨e0, e1⟩ := x21.c2
  go_wp2_with fail
  refine (allowed_any W H GA PA gc pc G P ax ay f bx by' t w1 hg2 hp2 (by omega)).mono ?_
  rintro e w2 ⟨rfl, hb2⟩
  have B2 := after_ B1 hb2
  rw [HO.out]
  go_wp2_with fail
  refine (known_any _).mono ?_
  rintro e w9 ⟨rfl, hb9⟩
  go_wp2_with fail
  go_ret
  exact ⟨rfl, after_ B2 hb9⟩

set_option maxRecDepth 100000 in
set_option maxHeartbeats 8000000 in
theorem lossSym_n2 (W H : Int) (GA PA : Option Addr) (gc pc : Nat) (G P : List Int) (ax ay f bx by' t more one two : Int) (w : World) (hg : Sl 1 icell w w.heap.size GA G) (hp : Sl 1 icell w w.heap.size PA P) (hgl : G.length ≤ 300 ∧ P.length ≤ 300) (hok : M.okObs W H G P ax ay f bx by' t = true) (n0 : ¬ more < 0) (n1 : ¬ 500 < more) (n2 : 500 < f + more) :
    Calls Try.prog 7 #[tv W H GA PA G.length gc P.length pc, cv ax ay, .int .i64 f, cv bx by', .int .i64 t, .int .i64 more, .int .i64 one, .int .i64 two] w (LawTrue w) := by
  obtain ⟨V, HW, x0, x1, x2, hB, -⟩ := boxes3 w #[.int .i64 W, .int .i64 H, .slice GA G.length gc, .slice PA P.length pc] 35 #[.int .i64 ax, .int .i64 ay] 29 #[.int .i64 bx, .int .i64 by'] 29
  have hg1 := (hg.below hB).more hB.size
  have hp1 := (hp.below hB).more hB.size
  have HQ : Hid ((decide (300 < (G.length : Int)) || decide (300 < (P.length : Int))) = false) := Lib.hid (by rw [Bool.or_eq_false_iff]; simp; omega)
  have HO := Lib.hid hok
  obtain ⟨hf, ht, -⟩ := M.okObs_iff.1 hok
  clear hok
  have q0 : decide (more < 0) = false := decide_eq_false n0
  have q1 : decide (500 < more) = false := decide_eq_false n1
  have q2 : decide (500 < f + more) = true := decide_eq_true n2
  go_enter Try.func7, Try.ntmps7
  go_wp2_with fail
  rw [HW.out]
  refine (big_any W H GA PA gc pc G.length P.length V).mono ?_
  rintro e w1 ⟨rfl, hb1⟩
  have B1 := after_ hB hb1
  rw [HQ.out]
  have x01 := x0.below hb1
  have x11 := x1.below hb1
  have x21 := x2.below hb1
  have hg2 := (hg1.below hb1).more hb1.size
  have hp2 := (hp1.below hb1).more hb1.size
  obtain ⟨c0, c1, c2, c3⟩ := x01.c4
  obtain ⟨d0, d1⟩ := x11.c2
  obtain ⟨e0, e1⟩ := x21.c2
  go_wp2_with fail
  refine (allowed_any W H GA PA gc pc G P ax ay f bx by' t w1 hg2 hp2 (by omega)).mono ?_
  rintro e w2 ⟨rfl, hb2⟩
  have B2 := after_ B1 hb2
  rw [HO.out]
  go_wp2_with fail
  refine (known_any _).mono ?_
  rintro e w9 ⟨rfl, hb9⟩
  go_wp2_with fail
  go_ret
  exact ⟨rfl, after_ B2 hb9⟩

set_option maxRecDepth 100000 in
set_option maxHeartbeats 8000000 in
theorem lossSym_n3 (W H : Int) (GA PA : Option Addr) (gc pc : Nat) (G P : List Int) (ax ay f bx by' t more one two : Int) (w : World) (hg : Sl 1 icell w w.heap.size GA G) (hp : Sl 1 icell w w.heap.size PA P) (hgl : G.length ≤ 300 ∧ P.length ≤ 300) (hok : M.okObs W H G P ax ay f bx by' t = true) (n0 : ¬ more < 0) (n1 : ¬ 500 < more) (n2 : ¬ 500 < f + more) (n3 : one < 0) :
    Calls Try.prog 7 #[tv W H GA PA G.length gc P.length pc, cv ax ay, .int .i64 f, cv bx by', .int .i64 t, .int .i64 more, .int .i64 one, .int .i64 two] w (LawTrue w) := by
  obtain ⟨V, HW, x0, x1, x2, hB, -⟩ := boxes3 w #[.int .i64 W, .int .i64 H, .slice GA G.length gc, .slice PA P.length pc] 35 #[.int .i64 ax, .int .i64 ay] 29 #[.int .i64 bx, .int .i64 by'] 29
  have hg1 := (hg.below hB).more hB.size
  have hp1 := (hp.below hB).more hB.size
  have HQ : Hid ((decide (300 < (G.length : Int)) || decide (300 < (P.length : Int))) = false) := Lib.hid (by rw [Bool.or_eq_false_iff]; simp; omega)
  have HO := Lib.hid hok
  obtain ⟨hf, ht, -⟩ := M.okObs_iff.1 hok
  clear hok
  have q0 : decide (more < 0) = false := decide_eq_false n0
  have q1 : decide (500 < more) = false := decide_eq_false n1
  have q2 : decide (500 < f + more) = false := decide_eq_false n2
  have q3 : decide (one < 0) = true := decide_eq_true n3
  go_enter Try.func7, Try.ntmps7
  go_wp2_with fail
  rw [HW.out]
  refine (big_any W H GA PA gc pc G.length P.length V).mono ?_
  rintro e w1 ⟨rfl, hb1⟩
  have B1 := after_ hB hb1
  rw [HQ.out]
  have x01 := x0.below hb1
  have x11 := x1.below hb1
  have x21 := x2.below hb1
  have hg2 := (hg1.below hb1).more hb1.size
  have hp2 := (hp1.below hb1).more hb1.size
  obtain ⟨c0, c1, c2, c3⟩ := x01.c4
  obtain ⟨d0, d1⟩ := x11.c2
  obtain ⟨e0, e1⟩ := x21.c2
  go_wp2_with fail
  refine (allowed_any W H GA PA gc pc G P ax ay f bx by' t w1 hg2 hp2 (by omega)).mono ?_
  rintro e w2 ⟨rfl, hb2⟩
  have B2 := after_ B1 hb2
  rw [HO.out]
  go_wp2_with fail
  refine (known_any _).mono ?_
  rintro e w9 ⟨rfl, hb9⟩
  go_wp2_with fail
  go_ret
  exact ⟨rfl, after_ B2 hb9⟩

set_option maxRecDepth 100000 in
set_option maxHeartbeats 8000000 in
theorem lossSym_n4 (W H : Int) (GA PA : Option Addr) (gc pc : Nat) (G P : List Int) (ax ay f bx by' t more one two : Int) (w : World) (hg : Sl 1 icell w w.heap.size GA G) (hp : Sl 1 icell w w.heap.size PA P) (hgl : G.length ≤ 300 ∧ P.length ≤ 300) (hok : M.okObs W H G P ax ay f bx by' t = true) (n0 : ¬ more < 0) (n1 : ¬ 500 < more) (n2 : ¬ 500 < f + more) (n3 : ¬ one < 0) (n4 : two < one) :
    Calls Try.prog 7 #[tv W H GA PA G.length gc P.length pc, cv ax ay, .int .i64 f, cv bx by', .int .i64 t, .int .i64 more, .int .i64 one, .int .i64 two] w (LawTrue w) := by
  obtain ⟨V, HW, x0, x1, x2, hB, -⟩ := boxes3 w #[.int .i64 W, .int .i64 H, .slice GA G.length gc, .slice PA P.length pc] 35 #[.int .i64 ax, .int .i64 ay] 29 #[.int .i64 bx, .int .i64 by'] 29
  have hg1 := (hg.below hB).more hB.size
  have hp1 := (hp.below hB).more hB.size
  have HQ : Hid ((decide (300 < (G.length : Int)) || decide (300 < (P.length : Int))) = false) := Lib.hid (by rw [Bool.or_eq_false_iff]; simp; omega)
  have HO := Lib.hid hok
  obtain ⟨hf, ht, -⟩ := M.okObs_iff.1 hok
  clear hok
  have q0 : decide (more < 0) = false := decide_eq_false n0
  have q1 : decide (500 < more) = false := decide_eq_false n1
  have q2 : decide (500 < f + more) = false := decide_eq_false n2
  have q3 : decide (one < 0) = false := decide_eq_false n3
  have q4 : decide (two < one) = true := decide_eq_true n4
  go_enter Try.func7, Try.ntmps7
  go_wp2_with fail
  rw [HW.out]
  refine (big_any W H GA PA gc pc G.length P.length V).mono ?_
  rintro e w1 ⟨rfl, hb1⟩
  have B1 := after_ hB hb1
  rw [HQ.out]
  have x01 := x0.below hb1
  have x11 := x1.below hb1
  have x21 := x2.below hb1
  have hg2 := (hg1.below hb1).more hb1.size
  have hp2 := (hp1.below hb1).more hb1.size
  obtain ⟨c0, c1, c2, c3⟩ := x01.c4
  obtain ⟨d0, d1⟩ := x11.c2
  obtain ⟨e0, e1⟩ := x21.c2
  go_wp2_with fail
  refine (allowed_any W H GA PA gc pc G P ax ay f bx by' t w1 hg2 hp2 (by omega)).mono ?_
  rintro e w2 ⟨rfl, hb2⟩
  have B2 := after_ B1 hb2
  rw [HO.out]
  go_wp2_with fail
  refine (known_any _).mono ?_
  rintro e w9 ⟨rfl, hb9⟩
  go_wp2_with fail
  go_ret
  exact ⟨rfl, after_ B2 hb9⟩

set_option maxRecDepth 100000 in
set_option maxHeartbeats 8000000 in
theorem lossSym_n5 (W H : Int) (GA PA : Option Addr) (gc pc : Nat) (G P : List Int) (ax ay f bx by' t more one two : Int) (w : World) (hg : Sl 1 icell w w.heap.size GA G) (hp : Sl 1 icell w w.heap.size PA P) (hgl : G.length ≤ 300 ∧ P.length ≤ 300) (hok : M.okObs W H G P ax ay f bx by' t = true) (n0 : ¬ more < 0) (n1 : ¬ 500 < more) (n2 : ¬ 500 < f + more) (n3 : ¬ one < 0) (n4 : ¬ two < one) (n5 : 7938 < two) :
    Calls Try.prog 7 #[tv W H GA PA G.length gc P.length pc, cv ax ay, .int .i64 f, cv bx by', .int .i64 t, .int .i64 more, .int .i64 one, .int .i64 two] w (LawTrue w) := by
  obtain ⟨V, HW, x0, x1, x2, hB, -⟩ := boxes3 w #[.int .i64 W, .int .i64 H, .slice GA G.length gc, .slice PA P.length pc] 35 #[.int .i64 ax, .int .i64 ay] 29 #[.int .i64 bx, .int .i64 by'] 29
  have hg1 := (hg.below hB).more hB.size
  have hp1 := (hp.below hB).more hB.size
  have HQ : Hid ((decide (300 < (G.length : Int)) || decide (300 < (P.length : Int))) = false) := Lib.hid (by rw [Bool.or_eq_false_iff]; simp; omega)
  have HO := Lib.hid hok
  obtain ⟨hf, ht, -⟩ := M.okObs_iff.1 hok
  clear hok
  have q0 : decide (more < 0) = false := decide_eq_false n0
  have q1 : decide (500 < more) = false := decide_eq_false n1
  have q2 : decide (500 < f + more) = false := decide_eq_false n2
  have q3 : decide (one < 0) = false := decide_eq_false n3
  have q4 : decide (two < one) = false := decide_eq_false n4
  have q5 : decide (7938 < two) = true := decide_eq_true n5
  go_enter Try.func7, Try.ntmps7
  go_wp2_with fail
  rw [HW.out]
  refine (big_any W H GA PA gc pc G.length P.length V).mono ?_
  rintro e w1 ⟨rfl, hb1⟩
  have B1 := after_ hB hb1
  rw [HQ.out]
  have x01 := x0.below hb1
  have x11 := x1.below hb1
  have x21 := x2.below hb1
  have hg2 := (hg1.below hb1).more hb1.size
  have hp2 := (hp1.below hb1).more hb1.size
  obtain ⟨c0, c1, c2, c3⟩ := x01.c4
  obtain ⟨d0, d1⟩ := x11.c2
  obtain ⟨e0, e1⟩ := x21.c2
  go_wp2_with fail
  refine (allowed_any W H GA PA gc pc G P ax ay f bx by' t w1 hg2 hp2 (by omega)).mono ?_
  rintro e w2 ⟨rfl, hb2⟩
  have B2 := after_ B1 hb2
  rw [HO.out]
  go_wp2_with fail
  refine (known_any _).mono ?_
  rintro e w9 ⟨rfl, hb9⟩
  go_wp2_with fail
  go_ret
  exact ⟨rfl, after_ B2 hb9⟩

set_option maxRecDepth 100000 in
set_option maxHeartbeats 8000000 in
theorem lossSym_ok (W H : Int) (GA PA : Option Addr) (gc pc : Nat) (G P : List Int) (ax ay f bx by' t more one two : Int) (w : World) (hg : Sl 1 icell w w.heap.size GA G) (hp : Sl 1 icell w w.heap.size PA P) (hgl : G.length ≤ 300 ∧ P.length ≤ 300) (hok : M.okObs W H G P ax ay f bx by' t = true) (n0 : ¬ more < 0) (n1 : ¬ 500 < more) (n2 : ¬ 500 < f + more) (n3 : ¬ one < 0) (n4 : ¬ two < one) (n5 : ¬ 7938 < two) :
    Calls Try.prog 7 #[tv W H GA PA G.length gc P.length pc, cv ax ay, .int .i64 f, cv bx by', .int .i64 t, .int .i64 more, .int .i64 one, .int .i64 two] w (LawTrue w) := by
  obtain ⟨V, HW, x0, x1, x2, hB, -⟩ := boxes3 w #[.int .i64 W, .int .i64 H, .slice GA G.length gc, .slice PA P.length pc] 35 #[.int .i64 ax, .int .i64 ay] 29 #[.int .i64 bx, .int .i64 by'] 29
  have hg1 := (hg.below hB).more hB.size
  have hp1 := (hp.below hB).more hB.size
  have HQ : Hid ((decide (300 < (G.length : Int)) || decide (300 < (P.length : Int))) = false) := Lib.hid (by rw [Bool.or_eq_false_iff]; simp; omega)
  have HO := Lib.hid hok
  have HO2 := Lib.hid (M.okObs_comm hok)
  obtain ⟨hf, ht, hv, hia, hib⟩ := M.okObs_iff.1 hok
  have HO3 : Hid (M.okObs W H G P ax ay (f + more) bx by' t = true) := Lib.hid (M.okObs_iff.2 ⟨by omega, ht, hv, hia, hib⟩)
  have HREV := Lib.hid (M.obst_rev W G ax ay f bx by' t)
  have HSUB : Hid (List.Sublist (M.obst W G ax ay (f + more) bx by' t) (M.obst W G ax ay f bx by' t)) := Lib.hid (M.obst_more (by omega))
  have HTC := Lib.hid (M.tot_comm W G ax ay f bx by' t)
  have hol : (M.obst W G ax ay f bx by' t).length ≤ 62 := by
    obtain ⟨t1, t2, -⟩ := M.tvalid_iff.1 hv
    obtain ⟨a1, a2⟩ := M.c63_of t1 t2 hia
    obtain ⟨b1, b2⟩ := M.c63_of t1 t2 hib
    have := M.span_bd a1 a2 b1 b2
    have h2 := M.obstTo_length W G ax ay f bx by' t (M.lineN ax ay bx by')
    unfold M.obst
    unfold M.lineN at h2 ⊢
    omega
  have hol2 : (M.obst W G ax ay (f + more) bx by' t).length ≤ 62 := Nat.le_trans HSUB.out.length_le hol
  obtain ⟨N1, hN1⟩ := Int.eq_ofNat_of_zero_le (show 0 ≤ one by omega)
  obtain ⟨N2, hN2⟩ := Int.eq_ofNat_of_zero_le (show 0 ≤ two by omega)
  subst hN1 hN2
  have hN1 : N1 ≤ 7938 := by omega
  have hN2 : N2 ≤ 7938 := by omega
  have hFM : M.free N1 ≤ M.free N2 := M.free_mono (by omega)
  clear hok hv hia hib
  have q0 : decide (more < 0) = false := decide_eq_false n0
  have q1 : decide (500 < more) = false := decide_eq_false n1
  have q2 : decide (500 < f + more) = false := decide_eq_false n2
  have q3 : decide ((N1 : Int) < 0) = false := decide_eq_false n3
  have q4 : decide ((N2 : Int) < (N1 : Int)) = false := decide_eq_false n4
  have q5 : decide (7938 < (N2 : Int)) = false := decide_eq_false n5
  go_enter Try.func7, Try.ntmps7
  go_wp2_with fail
  rw [HW.out]
  refine (big_any W H GA PA gc pc G.length P.length V).mono ?_
  rintro e w1 ⟨rfl, hb1⟩
  have B1 := after_ hB hb1
  rw [HQ.out]
  have x01 := x0.below hb1
  have x11 := x1.below hb1
  have x21 := x2.below hb1
  have hg2 := (hg1.below hb1).more hb1.size
  have hp2 := (hp1.below hb1).more hb1.size
  obtain ⟨c0, c1, c2, c3⟩ := x01.c4
  obtain ⟨d0, d1⟩ := x11.c2
  obtain ⟨e0, e1⟩ := x21.c2
  go_wp2_with fail
  refine (allowed_any W H GA PA gc pc G P ax ay f bx by' t w1 hg2 hp2 (by omega)).mono ?_
  rintro e w2 ⟨rfl, hb2⟩
  have B2 := after_ B1 hb2
  rw [HO.out]
  clear c0 c1 c2 c3 d0 d1 e0 e1
  have x02 := x01.below hb2
  have x12 := x11.below hb2
  have x22 := x21.below hb2
  have hg3 := (hg2.below hb2).more hb2.size
  have hp3 := (hp2.below hb2).more hb2.size
  obtain ⟨c0, c1, c2, c3⟩ := x02.c4
  obtain ⟨d0, d1⟩ := x12.c2
  obtain ⟨e0, e1⟩ := x22.c2
  go_wp2_with fail
  refine (obs_ok W H GA PA gc pc G P ax ay f bx by' t w2 hg3 hp3 HO.out).mono ?_
  rintro e w3 ⟨LA, lc, rfl, hSL, hb3⟩
  have B3 := after_ B2 hb3
  clear c0 c1 c2 c3 d0 d1 e0 e1
  have x03 := x02.below hb3
  have x13 := x12.below hb3
  have x23 := x22.below hb3
  have hg4 := (hg3.below hb3).more hb3.size
  have hp4 := (hp3.below hb3).more hb3.size
  obtain ⟨c0, c1, c2, c3⟩ := x03.c4
  obtain ⟨d0, d1⟩ := x13.c2
  obtain ⟨e0, e1⟩ := x23.c2
  go_wp2_with fail
  refine (obs_ok W H GA PA gc pc G P bx by' t ax ay f w3 hg4 hp4 HO2.out).mono ?_
  rintro e w4 ⟨MA, mc, rfl, hSM, hb4⟩
  have B4 := after_ B3 hb4
  clear c0 c1 c2 c3 d0 d1 e0 e1
  have x04 := x03.below hb4
  have x14 := x13.below hb4
  have x24 := x23.below hb4
  have hg5 := (hg4.below hb4).more hb4.size
  have hp5 := (hp4.below hb4).more hb4.size
  obtain ⟨c0, c1, c2, c3⟩ := x04.c4
  obtain ⟨d0, d1⟩ := x14.c2
  obtain ⟨e0, e1⟩ := x24.c2
  have hSL4 := (hSL.below hb4).more hb4.size
  rw [HREV.out] at hSM ⊢
  rw [List.length_reverse]
  have Hal : Hid (M.obst W G ax ay f bx by' t = M.obst W G ax ay f bx by' t) := Lib.hid rfl
  generalize hL : M.obst W G ax ay f bx by' t = L at *
  clear hL Hal
  obtain ⟨n, hn⟩ : ∃ n, L.length = n := ⟨_, rfl⟩
  have HN := Lib.hid hn
  rw [hn] at hol ⊢
  clear hn
  have qn : ((n : Int) != (n : Int)) = false := by simp
  go_wp2_with fail
  go_loopw [21] (fun i wr => ∃ k nd : Nat, k ≤ n ∧ i = .int .i64 k ∧ wr = w4.drewN nd) (fun i _ => n - (intOf i).toNat)
  case atStart => exact ⟨0, 0, Nat.zero_le _, rfl, rfl⟩
  case round =>
    obtain ⟨k, nd, hk, rfl, rfl⟩ := hrel
    by_cases hlt : k < n
    · obtain ⟨j, hj⟩ : ∃ j : Nat, n - 1 - k = j := ⟨_, rfl⟩
      have hjn : j < n := by omega
      have hji : (n : Int) - 1 - (k : Int) = (j : Int) := by omega
      obtain ⟨la, rfl, hlb, f0, hf1⟩ := hSL4.sp (k := k) (by decide) (by rw [HN.out]; exact hlt)
      obtain ⟨ma, rfl, hmb, g0, hg1'⟩ := hSM.sp (k := j) (by decide) (by rw [List.length_reverse, HN.out]; exact hjn)
      have f1 := hf1 1 (by decide) (by decide)
      have g1 := hg1' 1 (by decide) (by decide)
      clear hf1 hg1'
      have hLr : L.reverse[j]'(by rw [List.length_reverse, HN.out]; exact hjn) = L[k]'(by rw [HN.out]; exact hlt) := by
        rw [List.getElem_reverse]
        congr 1
        rw [HN.out]; omega
      rw [hLr] at g0 g1
      clear hLr hj
      generalize L[k]'(by rw [HN.out]; exact hlt) = p at *
      obtain ⟨px, py⟩ := p
      simp only [ccell] at f0 f1 g0 g1
      simp at f0 f1 g0 g1
      have r1 : (0 : Int) ≤ (j : Int) := by omega
      have r2 : (j : Int) < (n : Int) := by omega
      go_wp2_with fail
      go_quiet (fail)
      go_wp2_with fail
      go_roundw
      case rel => exact ⟨k + 1, _, hlt, by go_num, rfl⟩
      case measure => simp [intOf]; omega
    · have x05 := x04.drewN nd
      have x15 := x14.drewN nd
      have x25 := x24.drewN nd
      have hg6 : Sl 1 icell (w4.drewN nd) (w4.drewN nd).heap.size GA G := hg5.drewN nd
      have hp6 : Sl 1 icell (w4.drewN nd) (w4.drewN nd).heap.size PA P := hp5.drewN nd
      have hSL5 : Sl 2 ccell (w4.drewN nd) (w4.drewN nd).heap.size LA L := hSL4.drewN nd
      have B5 := below_drewN B4 nd
      clear c0 c1 c2 c3 d0 d1 e0 e1 hSM hSL4
      generalize w4.drewN nd = w5 at *
      obtain ⟨c0, c1, c2, c3⟩ := x05.c4
      obtain ⟨d0, d1⟩ := x15.c2
      obtain ⟨e0, e1⟩ := x25.c2
      go_wp2_with fail
      refine (total_ok W H GA PA gc pc G P ax ay f bx by' t w5 hg6 hp6 HO.out).mono ?_
      rintro e w6 ⟨rfl, hb6⟩
      have B6 := after_ B5 hb6
      clear c0 c1 c2 c3 d0 d1 e0 e1
      have x06 := x05.below hb6
      have x16 := x15.below hb6
      have x26 := x25.below hb6
      have hg7 := (hg6.below hb6).more hb6.size
      have hp7 := (hp6.below hb6).more hb6.size
      have hSL6 := (hSL5.below hb6).more hb6.size
      obtain ⟨c0, c1, c2, c3⟩ := x06.c4
      obtain ⟨d0, d1⟩ := x16.c2
      obtain ⟨e0, e1⟩ := x26.c2
      go_wp2_with fail
      refine (total_ok W H GA PA gc pc G P bx by' t ax ay f w6 hg7 hp7 HO2.out).mono ?_
      rintro e w7 ⟨rfl, hb7⟩
      have B7 := after_ B6 hb7
      rw [HTC.out]
      generalize M.tot W G ax ay f bx by' t = X at *
      have qx : (X != X) = false := by simp
      clear c0 c1 c2 c3 d0 d1 e0 e1
      have x07 := x06.below hb7
      have x17 := x16.below hb7
      have x27 := x26.below hb7
      have hg8 := (hg7.below hb7).more hb7.size
      have hp8 := (hp7.below hb7).more hb7.size
      have hSL7 := (hSL6.below hb7).more hb7.size
      go_wp2_with fail
      refine (free_ok N1 w7 hN1).mono ?_
      rintro e w8 ⟨rfl, hb8⟩
      have B8 := after_ B7 hb8
      have x08 := x07.below hb8
      have x18 := x17.below hb8
      have x28 := x27.below hb8
      have hg9 := (hg8.below hb8).more hb8.size
      have hp9 := (hp8.below hb8).more hb8.size
      have hSL8 := (hSL7.below hb8).more hb8.size
      go_wp2_with fail
      refine (free_ok N2 w8 hN2).mono ?_
      rintro e w9 ⟨rfl, hb9⟩
      have B9 := after_ B8 hb9
      have x09 := x08.below hb9
      have x19 := x18.below hb9
      have x29 := x28.below hb9
      have hg10 := (hg9.below hb9).more hb9.size
      have hp10 := (hp9.below hb9).more hb9.size
      have hSL9 := (hSL8.below hb9).more hb9.size
      generalize M.free N1 = F1 at *
      generalize M.free N2 = F2 at *
      have qf : decide ((F2 : Int) < (F1 : Int)) = false := by simp; omega
      have qf2 : decide (F2 < F1) = false := by simp; omega
      obtain ⟨c0, c1, c2, c3⟩ := x09.c4
      obtain ⟨d0, d1⟩ := x19.c2
      obtain ⟨e0, e1⟩ := x29.c2
      clear x05 x15 x25 x06 x16 x26 x07 x17 x27 x08 x18 x28 hg6 hp6 hg7 hp7 hg8 hp8 hg9 hp9 hSL5 hSL6 hSL7 hSL8 B5 B6 B7 B8 hb6 hb7 hb8 hb9
      go_wp2_with fail
      refine (obs_ok W H GA PA gc pc G P ax ay (f + more) bx by' t w9 hg10 hp10 HO3.out).mono ?_
      rintro e w10 ⟨OA, oc, rfl, hSO, hb10⟩
      have B10 := after_ B9 hb10
      have hSL10 := (hSL9.below hb10).more hb10.size
      clear c0 c1 c2 c3 d0 d1 e0 e1 hSL9 hg10 hp10 x09 x19 x29 hb10 B9
      generalize M.obst W G ax ay (f + more) bx by' t = O at *
      obtain ⟨m, hm⟩ : ∃ m, O.length = m := ⟨_, rfl⟩
      have HM := Lib.hid hm
      rw [hm] at hol2 ⊢
      clear hm
      go_wp2_with fail
      go_loopw [32, 33] (fun a i wr => ∃ k c nd : Nat, k ≤ m ∧ c ≤ n ∧ i = .int .i64 k ∧ a = .int .i64 c ∧ wr = w10.drewN nd ∧ Hid (List.Sublist (O.drop k) (L.drop c))) (fun _ i _ => m - (intOf i).toNat)
      case atStart => exact ⟨0, 0, 0, Nat.zero_le _, Nat.zero_le _, rfl, rfl, rfl, HSUB⟩
      case round =>
        obtain ⟨k, c, nd, hk, hc, rfl, rfl, rfl, HS⟩ := hrel
        by_cases hlt : k < m
        · have hko : k < O.length := by rw [HM.out]; exact hlt
          obtain ⟨oa, rfl, hob, g0, hg1'⟩ := hSO.sp (k := k) (by decide) hko
          have g1 := hg1' 1 (by decide) (by decide)
          clear hg1'
          obtain ⟨⟨ox, oy⟩, ho⟩ : ∃ p, O[k] = p := ⟨_, rfl⟩
          rw [ho] at g0 g1
          simp only [ccell] at g0 g1
          simp at g0 g1
          have HOK := Lib.hid ho
          clear ho
          go_wp2_with fail
          go_loopw [32] (fun a wr => ∃ c nd : Nat, c ≤ n ∧ a = .int .i64 c ∧ wr = w10.drewN nd ∧ Hid (List.Sublist (O.drop k) (L.drop c))) (fun a _ => n - (intOf a).toNat)
          case atStart => exact ⟨c, nd, hc, rfl, rfl, HS⟩
          case round =>
            clear hc HS
            obtain ⟨c, nd2, hc, rfl, rfl, HS⟩ := hrel
            have hcl : c < L.length := M.sub_at HS.out hko
            have hcn : c < n := by rw [← HN.out]; exact hcl
            have r1 : decide ((c : Int) < (n : Int)) = true := by simp; omega
            have r2 : decide (c < n) = true := by simp; omega
            have r3 : ((c : Int) == (n : Int)) = false := by simp; omega
            obtain ⟨la, rfl, hlb, f0, hf1⟩ := hSL10.sp (k := c) (by decide) hcl
            have f1 := hf1 1 (by decide) (by decide)
            clear hf1
            obtain ⟨⟨px, py⟩, hp⟩ : ∃ p, L[c] = p := ⟨_, rfl⟩
            rw [hp] at f0 f1
            simp only [ccell] at f0 f1
            simp at f0 f1
            have HP := Lib.hid hp
            clear hp
            by_cases he : (px, py) = (ox, oy)
            · obtain ⟨rfl, rfl⟩ := Prod.mk.inj he
              clear he
              go_wp2_with fail
              go_quiet (fail)
              go_wp2_with fail
              go_roundw
              case rel => exact ⟨k + 1, c, _, by omega, hc, by go_num, rfl, rfl, Lib.hid (M.sub_next HS.out hko)⟩
              case measure => simp [intOf]; omega
            · have HS2 : Hid (List.Sublist (O.drop k) (L.drop (c + 1))) := Lib.hid (M.sub_step HS.out hko hcl (by rw [HP.out, HOK.out]; exact he))
              by_cases h1 : px = ox
              · obtain rfl := h1
                have h2 : ¬ py = oy := fun e => he (by rw [e])
                clear he
                go_wp2_with fail
                go_quiet (fail)
                go_wp2_with fail
                go_roundw
                case rel => exact ⟨c + 1, _, hcn, by go_num, rfl, HS2⟩
                case measure => simp [intOf]; omega
              · clear he
                go_wp2_with fail
                go_quiet (fail)
                go_wp2_with fail
                go_roundw
                case rel => exact ⟨c + 1, _, hcn, by go_num, rfl, HS2⟩
                case measure => simp [intOf]; omega
        · go_wp2_with fail
          refine (known_any _).mono ?_
          rintro e w12 ⟨rfl, hb12⟩
          go_wp2_with fail
          go_ret
          exact ⟨rfl, after_ (below_drewN B10 nd) hb12⟩

theorem lossSymmetry_walk (W H : Int) (GA PA : Option Addr) (gc pc : Nat) (G P : List Int) (ax ay f bx by' t more one two : Int) (w : World) (hg : Sl 1 icell w w.heap.size GA G) (hp : Sl 1 icell w w.heap.size PA P) :
    Calls Try.prog 7 #[tv W H GA PA G.length gc P.length pc, cv ax ay, .int .i64 f, cv bx by', .int .i64 t, .int .i64 more, .int .i64 one, .int .i64 two] w (LawTrue w) := by
  cases hbig : decide (300 < (G.length : Int)) || decide (300 < (P.length : Int)) with
  | true => exact lossSym_big W H GA PA gc pc G P ax ay f bx by' t more one two w hg hp hbig
  | false =>
    have hgl : G.length ≤ 300 ∧ P.length ≤ 300 := by rw [Bool.or_eq_false_iff] at hbig; simp at hbig; omega
    cases hok : M.okObs W H G P ax ay f bx by' t with
    | false => exact lossSym_no W H GA PA gc pc G P ax ay f bx by' t more one two w hg hp hgl hok
    | true =>
      by_cases n0 : more < 0
      · exact lossSym_n0 W H GA PA gc pc G P ax ay f bx by' t more one two w hg hp hgl hok n0
      by_cases n1 : 500 < more
      · exact lossSym_n1 W H GA PA gc pc G P ax ay f bx by' t more one two w hg hp hgl hok n0 n1
      by_cases n2 : 500 < f + more
      · exact lossSym_n2 W H GA PA gc pc G P ax ay f bx by' t more one two w hg hp hgl hok n0 n1 n2
      by_cases n3 : one < 0
      · exact lossSym_n3 W H GA PA gc pc G P ax ay f bx by' t more one two w hg hp hgl hok n0 n1 n2 n3
      by_cases n4 : two < one
      · exact lossSym_n4 W H GA PA gc pc G P ax ay f bx by' t more one two w hg hp hgl hok n0 n1 n2 n3 n4
      by_cases n5 : 7938 < two
      · exact lossSym_n5 W H GA PA gc pc G P ax ay f bx by' t more one two w hg hp hgl hok n0 n1 n2 n3 n4 n5
      exact lossSym_ok W H GA PA gc pc G P ax ay f bx by' t more one two w hg hp hgl hok n0 n1 n2 n3 n4 n5
end Go.Proofs.Ytpbcbomlhcbfjaa
