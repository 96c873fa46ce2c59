/- A bundle of texts: RuCmp, RuVal, RuList. -/
import Derived.Test.YtciolgmljpamlaaGreatDoorProg
import Derived.Test.YtciolgmljpamlaaGreatDoorC03
import Derived.Test.YtciolgmljpamlaaGreatDoorC04
section
namespace Go.Proofs.YtciolgmljpamlaaGreatDoor
open Go Go.RowKit
set_option maxRecDepth 100000
theorem Box.c5 {w : World} {b : Nat} {t : TypeId} {x y z u v : Value} (h : Box w b #[x, y, z, u, v] t) : w.cell? ⟨b, 0, none⟩ = some x ∧ w.cell? ⟨b, 1, none⟩ = some y ∧ w.cell? ⟨b, 2, none⟩ = some z ∧ w.cell? ⟨b, 3, none⟩ = some u ∧ w.cell? ⟨b, 4, none⟩ = some v := ⟨h.cell 0 rfl, h.cell 1 rfl, h.cell 2 rfl, h.cell 3 rfl, h.cell 4 rfl⟩
theorem isNaN_ok (x : Int) (w : World) : Calls Tryz.prog 119 #[.int .i64 x] w fun e w' => e = .returned (.bool false) ∧ w = w' := by
  go_enter Tryz.func119, Tryz.ntmps119
  go_wp2_with fail
  go_ret
  exact ⟨by simp, rfl⟩
set_option maxHeartbeats 1000000 in
theorem cmpI_ok (x y : Int) (w : World) : Calls Tryz.prog 90 #[.int .i64 x, .int .i64 y] w fun e w' => e = .returned (.int .i64 (Lib.compareInt x y)) ∧ w = w' := by
  go_enter Tryz.func90, Tryz.ntmps90
  go_wp2_with (go_at_call 119; refine (isNaN_ok _ _).mono ?_; rintro e w' ⟨rfl, rfl⟩)
  all_goals (go_ret; refine ⟨?_, rfl⟩; unfold Lib.compareInt; (repeat' split) <;> first | rfl | (exfalso; omega))
theorem M.orI_drop {xs : List Int} {k : Nat} (hk : k < xs.length) (h : ∀ j (hj : j < xs.length), j < k → xs[j] = 0) : M.orI xs = M.orI (xs.drop k) := by
  induction k with
  | zero => rfl
  | succ k ih =>
    rw [ih (by omega) (fun j hj h2 => h j hj (by omega)), List.drop_eq_getElem_cons (show k < xs.length by omega), M.orI, if_pos (h k (by omega) (by omega))]
theorem M.orI_at {xs : List Int} {k : Nat} (hk : k < xs.length) (h : ∀ j (hj : j < xs.length), j < k → xs[j] = 0) (hx : xs[k] ≠ 0) : M.orI xs = xs[k] := by
  rw [M.orI_drop hk h, List.drop_eq_getElem_cons hk, M.orI, if_neg hx]
theorem M.orI_all {xs : List Int} (h : ∀ j (hj : j < xs.length), xs[j] = 0) : M.orI xs = 0 := by
  induction xs with
  | nil => rfl
  | cons x xs ih =>
    have h0 := h 0 (by simp)
    simp only [List.getElem_cons_zero] at h0
    rw [M.orI, if_pos h0]
    exact ih (fun j hj => by have := h (j + 1) (by simp; omega); simpa using this)
set_option maxHeartbeats 4000000 in
theorem or_ok (A : Option Addr) (c : Nat) (xs : List Int) (w : World) (hA : Sl 1 icell w w.heap.size A xs) (hl : xs.length ≤ 1000) : Calls Tryz.prog 89 #[.slice A xs.length c] w fun e w' => e = .returned (.int .i64 (M.orI xs)) ∧ w = w' := by
  go_enter Tryz.func89, Tryz.ntmps89
  go_wp2_with fail
  go_loop [5, 8] (fun _ i => ∃ k : Nat, k ≤ xs.length ∧ i = .int .i64 k ∧ Hid (∀ j (hj : j < xs.length), j < k → xs[j] = 0)) (fun _ i => xs.length - (intOf i).toNat)
  case atStart => exact ⟨0, Nat.zero_le _, rfl, Lib.hid (fun j _ h => absurd h (by omega))⟩
  case round =>
    obtain ⟨k, hk, rfl, HN⟩ := hrel
    by_cases hlt : k < xs.length
    · obtain ⟨la, rfl, hlb, a0⟩ := hA.int_at hlt
      have HE := Lib.hid (M.orI_at hlt HN.out)
      have HN2 : Hid (xs[k] = 0 → ∀ j (hj : j < xs.length), j < k + 1 → xs[j] = 0) := Lib.hid (fun h j h1 h3 => by
        by_cases e : j = k
        · subst e; exact h
        · exact HN.out j h1 (by omega))
      generalize xs[k] = x at *
      by_cases hx : x = 0
      · have HN3 := Lib.hid (HN2.out hx)
        subst hx
        go_wp2_with fail
        go_round
        case rel => exact ⟨k + 1, hlt, by go_num, HN3⟩
        case measure => simp [intOf]; omega
      · have q : (x != 0) = true := by simp [hx]
        have HE2 := Lib.hid (HE.out hx)
        clear hx
        go_wp2_with fail
        go_ret
        exact ⟨ret_int HE2.out.symm, rfl⟩
    · have HE : Hid (M.orI xs = 0) := Lib.hid (M.orI_all (fun j hj => HN.out j hj (by omega)))
      go_wp2_with fail
      go_ret
      exact ⟨ret_int HE.out.symm, rfl⟩
set_option maxHeartbeats 4000000 in
theorem comparePairs_grow (p q : P5) (w : World) : Calls Tryz.prog 41 #[p5v p, p5v q] w fun e w' => e = .returned (.int .i64 (M.cmp5 p q)) ∧ ∃ n, w' = ((((w.alloc (.cells (p5c p) 66)).alloc (.cells (p5c q) 66)).drewN n).alloc (.cells #[.int .i64 (Lib.compareInt p.a q.a), .int .i64 (Lib.compareInt p.b q.b), .int .i64 (Lib.compareInt p.c q.c), .int .i64 (Lib.compareInt p.d q.d), .int .i64 (Lib.compareInt p.e q.e)] 3)) := by
  obtain ⟨V, HW, x0, x1, hB, hs⟩ := boxes2 w (p5c p) 66 (p5c q) 66
  obtain ⟨m0, m1, m2, m3, m4⟩ := x0.c5
  obtain ⟨n0, n1, n2, n3, n4⟩ := x1.c5
  rw [show M.cmp5 p q = M.orI [Lib.compareInt p.a q.a, Lib.compareInt p.b q.b, Lib.compareInt p.c q.c, Lib.compareInt p.d q.d, Lib.compareInt p.e q.e] from rfl]
  have kO := fun n => or_ok (some ⟨V.heap.size, 0, none⟩) 5 [Lib.compareInt p.a q.a, Lib.compareInt p.b q.b, Lib.compareInt p.c q.c, Lib.compareInt p.d q.d, Lib.compareInt p.e q.e] ((V.drewN n).alloc (.cells #[.int .i64 (Lib.compareInt p.a q.a), .int .i64 (Lib.compareInt p.b q.b), .int .i64 (Lib.compareInt p.c q.c), .int .i64 (Lib.compareInt p.d q.d), .int .i64 (Lib.compareInt p.e q.e)] 3)) (Sl.of_box (Box.new (V.drewN n) #[.int .i64 (Lib.compareInt p.a q.a), .int .i64 (Lib.compareInt p.b q.b), .int .i64 (Lib.compareInt p.c q.c), .int .i64 (Lib.compareInt p.d q.d), .int .i64 (Lib.compareInt p.e q.e)] 3) rfl) (by simp)
  have HO := Lib.hid kO
  clear kO hs
  go_enter Tryz.func41, Tryz.ntmps41
  go_wp2_with fail
  rw [HW.out]
  refine wp_region_drw_tail 25 (by kernel_rfl) (by kernel_rfl) ?_
  simp only [List.take_succ_cons, List.take_zero, List.drop_succ_cons, List.drop_zero]
  repeat (go_big_quiet_step ((go_at_call 90; exact Drw.same (cmpI_ok _ _ _))))
  refine wpQuiet_nil ?_
  rintro w5 ⟨⟨n⟩, rfl⟩
  dsimp only [Drw.val]
  go_wp2_with fail
  refine (HO.out n).mono ?_
  rintro e w6 ⟨rfl, rfl⟩
  go_wp2_with fail
  go_ret
  exact ⟨rfl, n, by rw [← HW.out]⟩
set_option maxHeartbeats 4000000 in
theorem compareLoads_grow (p q : P5) (w : World) : Calls Tryz.prog 44 #[p5v p, p5v q] w fun e w' => e = .returned (.int .i64 (M.cmp5 p q)) ∧ ∃ n, w' = ((((w.alloc (.cells (p5c p) 68)).alloc (.cells (p5c q) 68)).drewN n).alloc (.cells #[.int .i64 (Lib.compareInt p.a q.a), .int .i64 (Lib.compareInt p.b q.b), .int .i64 (Lib.compareInt p.c q.c), .int .i64 (Lib.compareInt p.d q.d), .int .i64 (Lib.compareInt p.e q.e)] 3)) := by
  obtain ⟨V, HW, x0, x1, hB, hs⟩ := boxes2 w (p5c p) 68 (p5c q) 68
  obtain ⟨m0, m1, m2, m3, m4⟩ := x0.c5
  obtain ⟨n0, n1, n2, n3, n4⟩ := x1.c5
  rw [show M.cmp5 p q = M.orI [Lib.compareInt p.a q.a, Lib.compareInt p.b q.b, Lib.compareInt p.c q.c, Lib.compareInt p.d q.d, Lib.compareInt p.e q.e] from rfl]
  have kO := fun n => or_ok (some ⟨V.heap.size, 0, none⟩) 5 [Lib.compareInt p.a q.a, Lib.compareInt p.b q.b, Lib.compareInt p.c q.c, Lib.compareInt p.d q.d, Lib.compareInt p.e q.e] ((V.drewN n).alloc (.cells #[.int .i64 (Lib.compareInt p.a q.a), .int .i64 (Lib.compareInt p.b q.b), .int .i64 (Lib.compareInt p.c q.c), .int .i64 (Lib.compareInt p.d q.d), .int .i64 (Lib.compareInt p.e q.e)] 3)) (Sl.of_box (Box.new (V.drewN n) #[.int .i64 (Lib.compareInt p.a q.a), .int .i64 (Lib.compareInt p.b q.b), .int .i64 (Lib.compareInt p.c q.c), .int .i64 (Lib.compareInt p.d q.d), .int .i64 (Lib.compareInt p.e q.e)] 3) rfl) (by simp)
  have HO := Lib.hid kO
  clear kO hs
  go_enter Tryz.func44, Tryz.ntmps44
  go_wp2_with fail
  rw [HW.out]
  refine wp_region_drw_tail 25 (by kernel_rfl) (by kernel_rfl) ?_
  simp only [List.take_succ_cons, List.take_zero, List.drop_succ_cons, List.drop_zero]
  repeat (go_big_quiet_step ((go_at_call 90; exact Drw.same (cmpI_ok _ _ _))))
  refine wpQuiet_nil ?_
  rintro w5 ⟨⟨n⟩, rfl⟩
  dsimp only [Drw.val]
  go_wp2_with fail
  refine (HO.out n).mono ?_
  rintro e w6 ⟨rfl, rfl⟩
  go_wp2_with fail
  go_ret
  exact ⟨rfl, n, by rw [← HW.out]⟩
set_option maxHeartbeats 4000000 in
theorem compareCaps_grow (p q : P4) (w : World) : Calls Tryz.prog 47 #[p4v p, p4v q] w fun e w' => e = .returned (.int .i64 (M.cmp4 p q)) ∧ ∃ n, w' = ((((w.alloc (.cells (p4c p) 71)).alloc (.cells (p4c q) 71)).drewN n).alloc (.cells #[.int .i64 (Lib.compareInt p.a q.a), .int .i64 (Lib.compareInt p.b q.b), .int .i64 (Lib.compareInt p.c q.c), .int .i64 (Lib.compareInt p.d q.d)] 3)) := by
  obtain ⟨V, HW, x0, x1, hB, hs⟩ := boxes2 w (p4c p) 71 (p4c q) 71
  obtain ⟨m0, m1, m2, m3⟩ := x0.c4
  obtain ⟨n0, n1, n2, n3⟩ := x1.c4
  rw [show M.cmp4 p q = M.orI [Lib.compareInt p.a q.a, Lib.compareInt p.b q.b, Lib.compareInt p.c q.c, Lib.compareInt p.d q.d] from rfl]
  have kO := fun n => or_ok (some ⟨V.heap.size, 0, none⟩) 4 [Lib.compareInt p.a q.a, Lib.compareInt p.b q.b, Lib.compareInt p.c q.c, Lib.compareInt p.d q.d] ((V.drewN n).alloc (.cells #[.int .i64 (Lib.compareInt p.a q.a), .int .i64 (Lib.compareInt p.b q.b), .int .i64 (Lib.compareInt p.c q.c), .int .i64 (Lib.compareInt p.d q.d)] 3)) (Sl.of_box (Box.new (V.drewN n) #[.int .i64 (Lib.compareInt p.a q.a), .int .i64 (Lib.compareInt p.b q.b), .int .i64 (Lib.compareInt p.c q.c), .int .i64 (Lib.compareInt p.d q.d)] 3) rfl) (by simp)
  have HO := Lib.hid kO
  clear kO hs
  go_enter Tryz.func47, Tryz.ntmps47
  go_wp2_with fail
  rw [HW.out]
  refine wp_region_drw_tail 20 (by kernel_rfl) (by kernel_rfl) ?_
  simp only [List.take_succ_cons, List.take_zero, List.drop_succ_cons, List.drop_zero]
  repeat (go_big_quiet_step ((go_at_call 90; exact Drw.same (cmpI_ok _ _ _))))
  refine wpQuiet_nil ?_
  rintro w5 ⟨⟨n⟩, rfl⟩
  dsimp only [Drw.val]
  go_wp2_with fail
  refine (HO.out n).mono ?_
  rintro e w6 ⟨rfl, rfl⟩
  go_wp2_with fail
  go_ret
  exact ⟨rfl, n, by rw [← HW.out]⟩
end Go.Proofs.YtciolgmljpamlaaGreatDoor
end

section
namespace Go.Proofs.YtciolgmljpamlaaGreatDoor
open Go Go.RowKit
set_option maxRecDepth 100000
set_option maxHeartbeats 1000000 in
theorem isSt_ok (x : Int) (w : World) : Calls Tryz.prog 50 #[.int .i64 x] w fun e w' => e = .returned (.bool (M.isIn16 x 0 511)) ∧ w = w' := by
  unfold M.isIn16
  by_cases h1 : 0 ≤ x
  · have q1 : decide (0 ≤ x) = true := decide_eq_true h1
    have q2 : decide (x < 512) = decide (x ≤ 511) := decide_eq_decide.2 (by omega)
    rw [q1, Bool.true_and, ← q2]
    clear q2
    go_enter Tryz.func50, Tryz.ntmps50
    go_wp2_with fail
    go_ret
    exact ⟨rfl, rfl⟩
  · have q1 : decide (0 ≤ x) = false := decide_eq_false h1
    rw [q1, Bool.false_and]
    go_enter Tryz.func50, Tryz.ntmps50
    go_wp2_with fail
    go_ret
    exact ⟨rfl, rfl⟩
set_option maxHeartbeats 1000000 in
theorem isRg_ok (x y : Int) (w : World) : Calls Tryz.prog 88 #[.int .i64 x, .int .i64 y] w fun e w' => e = .returned (.bool (M.rng x y)) ∧ w = w' := by
  unfold M.rng
  cases q1 : decide (2 ≤ x) <;> cases q2 : decide (x ≤ y) <;> cases q3 : decide (y ≤ 51)
  all_goals
    simp only [Bool.and_false, Bool.and_true]
    go_enter Tryz.func88, Tryz.ntmps88
    go_wp2_with fail
    go_ret
    exact ⟨rfl, rfl⟩
theorem M.vPair_eq (p : P5) : M.vPair p = ((M.isIn16 p.a 0 511) && (M.isIn16 p.b 0 511) && !(decide (p.b ≤ p.a)) && (decide (-1 ≤ p.c)) && (decide (p.c ≤ 1)) && (M.rng p.d p.e)) := by
  unfold M.vPair M.isIn16
  rw [Bool.eq_iff_iff]
  constructor <;> intro h <;> simp_all <;> omega
set_option maxHeartbeats 8000000 in
theorem validPair_any (p : P5) (w : World) : Calls Tryz.prog 40 #[p5v p] w fun e w' => e = .returned (.bool (M.vPair p)) ∧ Below w.heap.size w w' := by
  obtain ⟨V, HW, x0, hB, -⟩ := boxes1 w (p5c p) 66
  obtain ⟨m0, m1, m2, m3, m4⟩ := x0.c5
  rw [M.vPair_eq]
  have k0 := isSt_ok p.a V
  have k1 := isSt_ok p.b V
  have k5 := isRg_ok p.d p.e V
  have hV := HW.out
  obtain ⟨g0, q0⟩ : ∃ b, M.isIn16 p.a 0 511 = b := ⟨_, rfl⟩
  obtain ⟨g1, q1⟩ : ∃ b, M.isIn16 p.b 0 511 = b := ⟨_, rfl⟩
  obtain ⟨g2, q2⟩ : ∃ b, decide (p.b ≤ p.a) = b := ⟨_, rfl⟩
  obtain ⟨g3, q3⟩ : ∃ b, decide (-1 ≤ p.c) = b := ⟨_, rfl⟩
  obtain ⟨g4, q4⟩ : ∃ b, decide (p.c ≤ 1) = b := ⟨_, rfl⟩
  obtain ⟨g5, q5⟩ : ∃ b, M.rng p.d p.e = b := ⟨_, rfl⟩
  rw [q0, q1, q2, q3, q4, q5]
  rw [q0] at k0
  rw [q1] at k1
  rw [q5] at k5
  cases g0 with
  | false =>
    go_enter Tryz.func40, Tryz.ntmps40
    go_wp2_with fail
    refine k0.mono ?_
    rintro e w0 ⟨rfl, rfl⟩
    go_wp2_with fail
    go_ret
    exact ⟨by simp, hB⟩
  | true =>
    cases g1 with
    | false =>
      go_enter Tryz.func40, Tryz.ntmps40
      go_wp2_with fail
      refine k0.mono ?_
      rintro e w0 ⟨rfl, rfl⟩
      go_wp2_with fail
      refine k1.mono ?_
      rintro e w1 ⟨rfl, rfl⟩
      go_wp2_with fail
      go_ret
      exact ⟨by simp, hB⟩
    | true =>
      cases g2 with
      | true =>
        go_enter Tryz.func40, Tryz.ntmps40
        go_wp2_with fail
        refine k0.mono ?_
        rintro e w0 ⟨rfl, rfl⟩
        go_wp2_with fail
        refine k1.mono ?_
        rintro e w1 ⟨rfl, rfl⟩
        go_wp2_with fail
        go_ret
        exact ⟨by simp, hB⟩
      | false =>
        cases g3 with
        | false =>
          go_enter Tryz.func40, Tryz.ntmps40
          go_wp2_with fail
          refine k0.mono ?_
          rintro e w0 ⟨rfl, rfl⟩
          go_wp2_with fail
          refine k1.mono ?_
          rintro e w1 ⟨rfl, rfl⟩
          go_wp2_with fail
          go_ret
          exact ⟨by simp, hB⟩
        | true =>
          cases g4 with
          | false =>
            go_enter Tryz.func40, Tryz.ntmps40
            go_wp2_with fail
            refine k0.mono ?_
            rintro e w0 ⟨rfl, rfl⟩
            go_wp2_with fail
            refine k1.mono ?_
            rintro e w1 ⟨rfl, rfl⟩
            go_wp2_with fail
            go_ret
            exact ⟨by simp, hB⟩
          | true =>
            cases g5 with
            | false =>
              go_enter Tryz.func40, Tryz.ntmps40
              go_wp2_with fail
              refine k0.mono ?_
              rintro e w0 ⟨rfl, rfl⟩
              go_wp2_with fail
              refine k1.mono ?_
              rintro e w1 ⟨rfl, rfl⟩
              go_wp2_with fail
              refine k5.mono ?_
              rintro e w5 ⟨rfl, rfl⟩
              go_wp2_with fail
              go_ret
              exact ⟨by simp, hB⟩
            | true =>
              go_enter Tryz.func40, Tryz.ntmps40
              go_wp2_with fail
              refine k0.mono ?_
              rintro e w0 ⟨rfl, rfl⟩
              go_wp2_with fail
              refine k1.mono ?_
              rintro e w1 ⟨rfl, rfl⟩
              go_wp2_with fail
              refine k5.mono ?_
              rintro e w5 ⟨rfl, rfl⟩
              go_wp2_with fail
              go_ret
              exact ⟨by simp, hB⟩
theorem M.vLoad_eq (p : P5) : M.vLoad p = ((M.isIn16 p.a 0 511) && (M.isIn16 p.b 0 511) && !((p.a == p.b)) && (decide (1 ≤ p.c)) && (decide (p.c ≤ 1073741824)) && (M.rng p.d p.e)) := by
  unfold M.vLoad M.isIn16
  rw [Bool.eq_iff_iff]
  constructor <;> intro h <;> simp_all <;> omega
set_option maxHeartbeats 8000000 in
theorem validLoad_any (p : P5) (w : World) : Calls Tryz.prog 43 #[p5v p] w fun e w' => e = .returned (.bool (M.vLoad p)) ∧ Below w.heap.size w w' := by
  obtain ⟨V, HW, x0, hB, -⟩ := boxes1 w (p5c p) 68
  obtain ⟨m0, m1, m2, m3, m4⟩ := x0.c5
  rw [M.vLoad_eq]
  have k0 := isSt_ok p.a V
  have k1 := isSt_ok p.b V
  have k5 := isRg_ok p.d p.e V
  have hV := HW.out
  obtain ⟨g0, q0⟩ : ∃ b, M.isIn16 p.a 0 511 = b := ⟨_, rfl⟩
  obtain ⟨g1, q1⟩ : ∃ b, M.isIn16 p.b 0 511 = b := ⟨_, rfl⟩
  obtain ⟨g2, q2⟩ : ∃ b, (p.a == p.b) = b := ⟨_, rfl⟩
  obtain ⟨g3, q3⟩ : ∃ b, decide (1 ≤ p.c) = b := ⟨_, rfl⟩
  obtain ⟨g4, q4⟩ : ∃ b, decide (p.c ≤ 1073741824) = b := ⟨_, rfl⟩
  obtain ⟨g5, q5⟩ : ∃ b, M.rng p.d p.e = b := ⟨_, rfl⟩
  rw [q0, q1, q2, q3, q4, q5]
  rw [q0] at k0
  rw [q1] at k1
  rw [q5] at k5
  cases g0 with
  | false =>
    go_enter Tryz.func43, Tryz.ntmps43
    go_wp2_with fail
    refine k0.mono ?_
    rintro e w0 ⟨rfl, rfl⟩
    go_wp2_with fail
    go_ret
    exact ⟨by simp, hB⟩
  | true =>
    cases g1 with
    | false =>
      go_enter Tryz.func43, Tryz.ntmps43
      go_wp2_with fail
      refine k0.mono ?_
      rintro e w0 ⟨rfl, rfl⟩
      go_wp2_with fail
      refine k1.mono ?_
      rintro e w1 ⟨rfl, rfl⟩
      go_wp2_with fail
      go_ret
      exact ⟨by simp, hB⟩
    | true =>
      cases g2 with
      | true =>
        go_enter Tryz.func43, Tryz.ntmps43
        go_wp2_with fail
        refine k0.mono ?_
        rintro e w0 ⟨rfl, rfl⟩
        go_wp2_with fail
        refine k1.mono ?_
        rintro e w1 ⟨rfl, rfl⟩
        go_wp2_with fail
        go_ret
        exact ⟨by simp, hB⟩
      | false =>
        cases g3 with
        | false =>
          go_enter Tryz.func43, Tryz.ntmps43
          go_wp2_with fail
          refine k0.mono ?_
          rintro e w0 ⟨rfl, rfl⟩
          go_wp2_with fail
          refine k1.mono ?_
          rintro e w1 ⟨rfl, rfl⟩
          go_wp2_with fail
          go_ret
          exact ⟨by simp, hB⟩
        | true =>
          cases g4 with
          | false =>
            go_enter Tryz.func43, Tryz.ntmps43
            go_wp2_with fail
            refine k0.mono ?_
            rintro e w0 ⟨rfl, rfl⟩
            go_wp2_with fail
            refine k1.mono ?_
            rintro e w1 ⟨rfl, rfl⟩
            go_wp2_with fail
            go_ret
            exact ⟨by simp, hB⟩
          | true =>
            cases g5 with
            | false =>
              go_enter Tryz.func43, Tryz.ntmps43
              go_wp2_with fail
              refine k0.mono ?_
              rintro e w0 ⟨rfl, rfl⟩
              go_wp2_with fail
              refine k1.mono ?_
              rintro e w1 ⟨rfl, rfl⟩
              go_wp2_with fail
              refine k5.mono ?_
              rintro e w5 ⟨rfl, rfl⟩
              go_wp2_with fail
              go_ret
              exact ⟨by simp, hB⟩
            | true =>
              go_enter Tryz.func43, Tryz.ntmps43
              go_wp2_with fail
              refine k0.mono ?_
              rintro e w0 ⟨rfl, rfl⟩
              go_wp2_with fail
              refine k1.mono ?_
              rintro e w1 ⟨rfl, rfl⟩
              go_wp2_with fail
              refine k5.mono ?_
              rintro e w5 ⟨rfl, rfl⟩
              go_wp2_with fail
              go_ret
              exact ⟨by simp, hB⟩
theorem M.vCap_eq (p : P4) : M.vCap p = ((M.isIn16 p.a 0 511) && (decide (0 ≤ p.b)) && (decide (p.b ≤ 1099511627776)) && (M.rng p.c p.d)) := by
  unfold M.vCap M.isIn16
  rw [Bool.eq_iff_iff]
  constructor <;> intro h <;> simp_all <;> omega
set_option maxHeartbeats 8000000 in
theorem validCap_any (p : P4) (w : World) : Calls Tryz.prog 46 #[p4v p] w fun e w' => e = .returned (.bool (M.vCap p)) ∧ Below w.heap.size w w' := by
  obtain ⟨V, HW, x0, hB, -⟩ := boxes1 w (p4c p) 71
  obtain ⟨m0, m1, m2, m3⟩ := x0.c4
  rw [M.vCap_eq]
  have k0 := isSt_ok p.a V
  have k3 := isRg_ok p.c p.d V
  have hV := HW.out
  obtain ⟨g0, q0⟩ : ∃ b, M.isIn16 p.a 0 511 = b := ⟨_, rfl⟩
  obtain ⟨g1, q1⟩ : ∃ b, decide (0 ≤ p.b) = b := ⟨_, rfl⟩
  obtain ⟨g2, q2⟩ : ∃ b, decide (p.b ≤ 1099511627776) = b := ⟨_, rfl⟩
  obtain ⟨g3, q3⟩ : ∃ b, M.rng p.c p.d = b := ⟨_, rfl⟩
  rw [q0, q1, q2, q3]
  rw [q0] at k0
  rw [q3] at k3
  cases g0 with
  | false =>
    go_enter Tryz.func46, Tryz.ntmps46
    go_wp2_with fail
    refine k0.mono ?_
    rintro e w0 ⟨rfl, rfl⟩
    go_wp2_with fail
    go_ret
    exact ⟨by simp, hB⟩
  | true =>
    cases g1 with
    | false =>
      go_enter Tryz.func46, Tryz.ntmps46
      go_wp2_with fail
      refine k0.mono ?_
      rintro e w0 ⟨rfl, rfl⟩
      go_wp2_with fail
      go_ret
      exact ⟨by simp, hB⟩
    | true =>
      cases g2 with
      | false =>
        go_enter Tryz.func46, Tryz.ntmps46
        go_wp2_with fail
        refine k0.mono ?_
        rintro e w0 ⟨rfl, rfl⟩
        go_wp2_with fail
        go_ret
        exact ⟨by simp, hB⟩
      | true =>
        cases g3 with
        | false =>
          go_enter Tryz.func46, Tryz.ntmps46
          go_wp2_with fail
          refine k0.mono ?_
          rintro e w0 ⟨rfl, rfl⟩
          go_wp2_with fail
          refine k3.mono ?_
          rintro e w3 ⟨rfl, rfl⟩
          go_wp2_with fail
          go_ret
          exact ⟨by simp, hB⟩
        | true =>
          go_enter Tryz.func46, Tryz.ntmps46
          go_wp2_with fail
          refine k0.mono ?_
          rintro e w0 ⟨rfl, rfl⟩
          go_wp2_with fail
          refine k3.mono ?_
          rintro e w3 ⟨rfl, rfl⟩
          go_wp2_with fail
          go_ret
          exact ⟨by simp, hB⟩
end Go.Proofs.YtciolgmljpamlaaGreatDoor
end

section
namespace Go.Proofs.YtciolgmljpamlaaGreatDoor
open Go Go.RowKit
set_option maxRecDepth 100000
theorem M.vlist_no {α : Type} {v : α → Bool} {cf : α → α → Int} {l : List α} {k most : Nat} (hk : k < l.length) (h : M.vstep v cf l k = false) : M.vlist most v cf l = false := by
  unfold M.vlist
  rw [M.vscan_no h hk, Bool.and_false]
theorem M.vstep0 {α : Type} {v : α → Bool} {cf : α → α → Int} {l : List α} {k : Nat} (hk : k < l.length) (h : v l[k] = false) : M.vstep v cf l k = false := by
  rw [M.vstep_at hk, h, Bool.false_and]
theorem M.vstepF {α : Type} {v : α → Bool} {cf : α → α → Int} {l : List α} {k : Nat} (hk : k < l.length) (h : v l[k] = true) (h0 : ¬ 0 < k) : M.vstep v cf l k = true := by
  obtain rfl : k = 0 := by omega
  rw [M.vstep_at hk, h]; rfl
theorem M.vstepN {α : Type} {v : α → Bool} {cf : α → α → Int} {l : List α} {k : Nat} (hk : k < l.length) (h : v l[k] = true) (h0 : 0 < k) : M.vstep v cf l k = decide (cf l[k - 1] l[k] < 0) := by
  obtain ⟨j, rfl⟩ : ∃ j, k = j + 1 := ⟨k - 1, by omega⟩
  rw [M.vstep_at hk, h]
  simp
theorem comparePairs_any (p q : P5) (w : World) : Calls Tryz.prog 41 #[p5v p, p5v q] w fun e w' => e = .returned (.int .i64 (M.cmp5 p q)) ∧ Below w.heap.size w w' :=
  (comparePairs_grow p q w).mono fun _ _ ⟨he, n, hw⟩ => ⟨he, by
    rw [hw]
    exact (below_drewN (((Below.refl w.heap.size w).alloc (Nat.le_refl _) _).alloc (by simp) _) n).alloc (by simp [World.drewN]; omega) _⟩
set_option maxHeartbeats 8000000 in
theorem vlistPairs_any (most : Nat) (A : Option Addr) (c : Nat) (l : List P5) (w : World) (hA : Sl 5 p5cell w w.heap.size A l) (hm : most ≤ 5000) (hl : l.length ≤ 9223372036854775807) :
    Calls Tryz.prog 39 #[.slice A l.length c, .int .i64 most, .func (.func 40) #[] #[], .func (.func 41) #[] #[]] w fun e w' => e = .returned (.bool (M.vlist most M.vPair M.cmp5 l)) ∧ Below w.heap.size w w' := by
  obtain ⟨r, hr⟩ : ∃ r, M.vlist most M.vPair M.cmp5 l = r := ⟨_, rfl⟩
  have HNO : Hid (∀ k, k < l.length → M.vstep M.vPair M.cmp5 l k = false → false = r) := Lib.hid (fun k hk h => by rw [← hr]; exact (M.vlist_no hk h).symm)
  have HR := Lib.hid hr
  rw [hr]
  clear hr
  by_cases hlm : most < l.length
  · have q1 : decide ((most : Int) < (l.length : Int)) = true := decide_eq_true (by omega)
    have HF : Hid (false = r) := Lib.hid (by rw [← HR.out]; unfold M.vlist; rw [decide_eq_false (by omega), Bool.false_and])
    go_enter Tryz.func39, Tryz.ntmps39
    go_wp2_with fail
    go_ret
    exact ⟨ret_bool HF.out, Below.refl _ _⟩
  have q1 : decide ((most : Int) < (l.length : Int)) = false := decide_eq_false (by omega)
  have HYES : Hid (M.vscan M.vPair M.cmp5 l l.length = true → true = r) := Lib.hid (fun h => by rw [← HR.out]; unfold M.vlist; rw [decide_eq_true (by omega), h]; rfl)
  go_enter Tryz.func39, Tryz.ntmps39
  go_wp2_with fail
  clear q1
  go_loopw [9, 10, 17] (fun _ _ i wr => ∃ k : Nat, k ≤ l.length ∧ i = .int .i64 k ∧ Below w.heap.size w wr ∧ Hid (M.vscan M.vPair M.cmp5 l k = true)) (fun _ _ i _ => l.length - (intOf i).toNat)
  case atStart => exact ⟨0, Nat.zero_le _, rfl, Below.refl _ _, Lib.hid rfl⟩
  case round =>
    obtain ⟨k, hk, rfl, hB, HS⟩ := hrel
    by_cases hlt : k < l.length
    · obtain ⟨la, hla, hlb, a0, hj⟩ := ((hA.below hB).more hB.size).sp (by decide) hlt
      have a1 := hj 1 (by decide) (by decide)
      have a2 := hj 2 (by decide) (by decide)
      have a3 := hj 3 (by decide) (by decide)
      have a4 := hj 4 (by decide) (by decide)
      clear hj
      have HSS := Lib.hid (M.vscan_succ M.vPair M.cmp5 l k)
      have HNk := Lib.hid (HNO.out k hlt)
      have HV0 := Lib.hid (M.vstep0 (v := M.vPair) (cf := M.cmp5) hlt)
      have HVF := Lib.hid (M.vstepF (v := M.vPair) (cf := M.cmp5) hlt)
      have HVN := Lib.hid (M.vstepN (v := M.vPair) (cf := M.cmp5) hlt)
      obtain ⟨x, hx⟩ : ∃ x, l[k] = x := ⟨_, rfl⟩
      rw [hx] at a0 a1 a2 a3 a4 HV0 HVF HVN
      clear hx
      simp only [p5cell] at a0 a1 a2 a3 a4
      obtain ⟨X, HX, u0, hbX, -⟩ := boxes1 wr (p5c x) 66
      have BX := after_ hB hbX
      have l0 := u0.lt
      obtain ⟨m0, m1, m2, m3, m4⟩ := u0.c5
      have hX := HX.out
      have kV0 := fun w1 => validPair_any x w1
      cases hv : M.vPair x with
      | false =>
        rw [hv] at kV0
        have kV := Lib.hid kV0
        clear kV0
        have kC : Hid True := Lib.hid trivial
        have HF := Lib.hid (HNk.out (HV0.out hv))
        subst hla
        go_wp2_with fail
        clear hX
        refine wp_region_kept X.heap.size X (by kernel_rfl) (by kernel_rfl) (Below.refl _ _) ?_
        repeat (go_big_quiet_step ((go_at_call 40; exact Kept.calls (Nat.le_refl _) (kV.out _))))
        refine wpQuiet_nil ?_
        rintro w5 ⟨⟨_, hb5⟩, rfl⟩
        go_wp2_with fail
        go_ret
        exact ⟨ret_bool HF.out, after_ BX hb5⟩
      | true =>
        rw [hv] at kV0
        have kV := Lib.hid kV0
        clear kV0
        by_cases h0 : 0 < k
        · obtain ⟨la2, hla2, hlb2, p0, hj2⟩ := ((hA.below hB).more hB.size).sp (k := k - 1) (by decide) (by omega)
          obtain rfl : la = la2 := Option.some.inj (hla.symm.trans hla2)
          have p1 := hj2 1 (by decide) (by decide)
          have p2 := hj2 2 (by decide) (by decide)
          have p3 := hj2 3 (by decide) (by decide)
          have p4 := hj2 4 (by decide) (by decide)
          clear hj2 hla2
          have hvn := HVN.out hv h0
          obtain ⟨y, hy⟩ : ∃ y, l[k - 1] = y := ⟨_, rfl⟩
          rw [hy] at p0 p1 p2 p3 p4 hvn
          clear hy
          simp only [p5cell] at p0 p1 p2 p3 p4
          have l2 : (la.add ((k - 1) * 5)).block < X.heap.size := Nat.lt_of_lt_of_le hlb2 hbX.size
          have s0 := (hbX.cell (p := la.add ((k - 1) * 5)) hlb2).trans p0
          have s1 := (hbX.cell (p := ⟨(la.add ((k - 1) * 5)).block, (la.add ((k - 1) * 5)).off + 1, none⟩) hlb2).trans p1
          have s2 := (hbX.cell (p := ⟨(la.add ((k - 1) * 5)).block, (la.add ((k - 1) * 5)).off + 2, none⟩) hlb2).trans p2
          have s3 := (hbX.cell (p := ⟨(la.add ((k - 1) * 5)).block, (la.add ((k - 1) * 5)).off + 3, none⟩) hlb2).trans p3
          have s4 := (hbX.cell (p := ⟨(la.add ((k - 1) * 5)).block, (la.add ((k - 1) * 5)).off + 4, none⟩) hlb2).trans p4
          have kC := Lib.hid (fun w1 => comparePairs_any y x w1)
          have HVN2 := Lib.hid hvn
          clear hvn p0 p1 p2 p3 p4
          generalize M.cmp5 y x = cr at *
          by_cases hc : 0 ≤ cr
          · have q2 : decide (0 ≤ cr) = true := decide_eq_true hc
            have HF := Lib.hid (HNk.out (by rw [HVN2.out]; exact decide_eq_false (by omega)))
            subst hla
            go_wp2_with fail
            clear hX
            refine wp_region_kept X.heap.size X (by kernel_rfl) (by kernel_rfl) (Below.refl _ _) ?_
            repeat (go_big_quiet_step (first | (go_at_call 40; exact Kept.calls (Nat.le_refl _) (kV.out _)) | (go_at_call 41; exact Kept.calls (Nat.le_refl _) (kC.out _))))
            refine wpQuiet_nil ?_
            rintro w5 ⟨⟨_, hb5⟩, rfl⟩
            go_wp2_with fail
            go_ret
            exact ⟨ret_bool HF.out, after_ BX hb5⟩
          · have q2 : decide (0 ≤ cr) = false := decide_eq_false hc
            have HS2 : Hid (M.vscan M.vPair M.cmp5 l (k + 1) = true) := Lib.hid (by rw [HSS.out, HS.out, HVN2.out]; exact decide_eq_true (by omega))
            subst hla
            go_wp2_with fail
            clear hX
            refine wp_region_kept X.heap.size X (by kernel_rfl) (by kernel_rfl) (Below.refl _ _) ?_
            repeat (go_big_quiet_step (first | (go_at_call 40; exact Kept.calls (Nat.le_refl _) (kV.out _)) | (go_at_call 41; exact Kept.calls (Nat.le_refl _) (kC.out _))))
            refine wpQuiet_nil ?_
            rintro w5 ⟨⟨_, hb5⟩, rfl⟩
            go_wp2_with fail
            go_roundw
            case rel => exact ⟨k + 1, hlt, by go_num, after_ BX hb5, HS2⟩
            case measure => simp [intOf]; omega
        · have HS2 : Hid (M.vscan M.vPair M.cmp5 l (k + 1) = true) := Lib.hid (by rw [HSS.out, HS.out, HVF.out hv h0]; rfl)
          have hk0 : decide (0 < k) = false := decide_eq_false h0
          clear h0
          subst hla
          go_wp2_with fail
          clear hX
          refine wp_region_kept X.heap.size X (by kernel_rfl) (by kernel_rfl) (Below.refl _ _) ?_
          repeat (go_big_quiet_step ((go_at_call 40; exact Kept.calls (Nat.le_refl _) (kV.out _))))
          refine wpQuiet_nil ?_
          rintro w5 ⟨⟨_, hb5⟩, rfl⟩
          go_wp2_with fail
          go_roundw
          case rel => exact ⟨k + 1, hlt, by go_num, after_ BX hb5, HS2⟩
          case measure => simp [intOf]; omega
    · obtain rfl : k = l.length := by omega
      have HF := Lib.hid (HYES.out HS.out)
      go_wp2_with fail
      go_ret
      exact ⟨ret_bool HF.out, hB⟩
theorem compareLoads_any (p q : P5) (w : World) : Calls Tryz.prog 44 #[p5v p, p5v q] w fun e w' => e = .returned (.int .i64 (M.cmp5 p q)) ∧ Below w.heap.size w w' :=
  (compareLoads_grow p q w).mono fun _ _ ⟨he, n, hw⟩ => ⟨he, by
    rw [hw]
    exact (below_drewN (((Below.refl w.heap.size w).alloc (Nat.le_refl _) _).alloc (by simp) _) n).alloc (by simp [World.drewN]; omega) _⟩
set_option maxHeartbeats 8000000 in
theorem vlistLoads_any (most : Nat) (A : Option Addr) (c : Nat) (l : List P5) (w : World) (hA : Sl 5 p5cell w w.heap.size A l) (hm : most ≤ 5000) (hl : l.length ≤ 9223372036854775807) :
    Calls Tryz.prog 42 #[.slice A l.length c, .int .i64 most, .func (.func 43) #[] #[], .func (.func 44) #[] #[]] w fun e w' => e = .returned (.bool (M.vlist most M.vLoad M.cmp5 l)) ∧ Below w.heap.size w w' := by
  obtain ⟨r, hr⟩ : ∃ r, M.vlist most M.vLoad M.cmp5 l = r := ⟨_, rfl⟩
  have HNO : Hid (∀ k, k < l.length → M.vstep M.vLoad M.cmp5 l k = false → false = r) := Lib.hid (fun k hk h => by rw [← hr]; exact (M.vlist_no hk h).symm)
  have HR := Lib.hid hr
  rw [hr]
  clear hr
  by_cases hlm : most < l.length
  · have q1 : decide ((most : Int) < (l.length : Int)) = true := decide_eq_true (by omega)
    have HF : Hid (false = r) := Lib.hid (by rw [← HR.out]; unfold M.vlist; rw [decide_eq_false (by omega), Bool.false_and])
    go_enter Tryz.func42, Tryz.ntmps42
    go_wp2_with fail
    go_ret
    exact ⟨ret_bool HF.out, Below.refl _ _⟩
  have q1 : decide ((most : Int) < (l.length : Int)) = false := decide_eq_false (by omega)
  have HYES : Hid (M.vscan M.vLoad M.cmp5 l l.length = true → true = r) := Lib.hid (fun h => by rw [← HR.out]; unfold M.vlist; rw [decide_eq_true (by omega), h]; rfl)
  go_enter Tryz.func42, Tryz.ntmps42
  go_wp2_with fail
  clear q1
  go_loopw [9, 10, 17] (fun _ _ i wr => ∃ k : Nat, k ≤ l.length ∧ i = .int .i64 k ∧ Below w.heap.size w wr ∧ Hid (M.vscan M.vLoad M.cmp5 l k = true)) (fun _ _ i _ => l.length - (intOf i).toNat)
  case atStart => exact ⟨0, Nat.zero_le _, rfl, Below.refl _ _, Lib.hid rfl⟩
  case round =>
    obtain ⟨k, hk, rfl, hB, HS⟩ := hrel
    by_cases hlt : k < l.length
    · obtain ⟨la, hla, hlb, a0, hj⟩ := ((hA.below hB).more hB.size).sp (by decide) hlt
      have a1 := hj 1 (by decide) (by decide)
      have a2 := hj 2 (by decide) (by decide)
      have a3 := hj 3 (by decide) (by decide)
      have a4 := hj 4 (by decide) (by decide)
      clear hj
      have HSS := Lib.hid (M.vscan_succ M.vLoad M.cmp5 l k)
      have HNk := Lib.hid (HNO.out k hlt)
      have HV0 := Lib.hid (M.vstep0 (v := M.vLoad) (cf := M.cmp5) hlt)
      have HVF := Lib.hid (M.vstepF (v := M.vLoad) (cf := M.cmp5) hlt)
      have HVN := Lib.hid (M.vstepN (v := M.vLoad) (cf := M.cmp5) hlt)
      obtain ⟨x, hx⟩ : ∃ x, l[k] = x := ⟨_, rfl⟩
      rw [hx] at a0 a1 a2 a3 a4 HV0 HVF HVN
      clear hx
      simp only [p5cell] at a0 a1 a2 a3 a4
      obtain ⟨X, HX, u0, hbX, -⟩ := boxes1 wr (p5c x) 68
      have BX := after_ hB hbX
      have l0 := u0.lt
      obtain ⟨m0, m1, m2, m3, m4⟩ := u0.c5
      have hX := HX.out
      have kV0 := fun w1 => validLoad_any x w1
      cases hv : M.vLoad x with
      | false =>
        rw [hv] at kV0
        have kV := Lib.hid kV0
        clear kV0
        have kC : Hid True := Lib.hid trivial
        have HF := Lib.hid (HNk.out (HV0.out hv))
        subst hla
        go_wp2_with fail
        clear hX
        refine wp_region_kept X.heap.size X (by kernel_rfl) (by kernel_rfl) (Below.refl _ _) ?_
        repeat (go_big_quiet_step ((go_at_call 43; exact Kept.calls (Nat.le_refl _) (kV.out _))))
        refine wpQuiet_nil ?_
        rintro w5 ⟨⟨_, hb5⟩, rfl⟩
        go_wp2_with fail
        go_ret
        exact ⟨ret_bool HF.out, after_ BX hb5⟩
      | true =>
        rw [hv] at kV0
        have kV := Lib.hid kV0
        clear kV0
        by_cases h0 : 0 < k
        · obtain ⟨la2, hla2, hlb2, p0, hj2⟩ := ((hA.below hB).more hB.size).sp (k := k - 1) (by decide) (by omega)
          obtain rfl : la = la2 := Option.some.inj (hla.symm.trans hla2)
          have p1 := hj2 1 (by decide) (by decide)
          have p2 := hj2 2 (by decide) (by decide)
          have p3 := hj2 3 (by decide) (by decide)
          have p4 := hj2 4 (by decide) (by decide)
          clear hj2 hla2
          have hvn := HVN.out hv h0
          obtain ⟨y, hy⟩ : ∃ y, l[k - 1] = y := ⟨_, rfl⟩
          rw [hy] at p0 p1 p2 p3 p4 hvn
          clear hy
          simp only [p5cell] at p0 p1 p2 p3 p4
          have l2 : (la.add ((k - 1) * 5)).block < X.heap.size := Nat.lt_of_lt_of_le hlb2 hbX.size
          have s0 := (hbX.cell (p := la.add ((k - 1) * 5)) hlb2).trans p0
          have s1 := (hbX.cell (p := ⟨(la.add ((k - 1) * 5)).block, (la.add ((k - 1) * 5)).off + 1, none⟩) hlb2).trans p1
          have s2 := (hbX.cell (p := ⟨(la.add ((k - 1) * 5)).block, (la.add ((k - 1) * 5)).off + 2, none⟩) hlb2).trans p2
          have s3 := (hbX.cell (p := ⟨(la.add ((k - 1) * 5)).block, (la.add ((k - 1) * 5)).off + 3, none⟩) hlb2).trans p3
          have s4 := (hbX.cell (p := ⟨(la.add ((k - 1) * 5)).block, (la.add ((k - 1) * 5)).off + 4, none⟩) hlb2).trans p4
          have kC := Lib.hid (fun w1 => compareLoads_any y x w1)
          have HVN2 := Lib.hid hvn
          clear hvn p0 p1 p2 p3 p4
          generalize M.cmp5 y x = cr at *
          by_cases hc : 0 ≤ cr
          · have q2 : decide (0 ≤ cr) = true := decide_eq_true hc
            have HF := Lib.hid (HNk.out (by rw [HVN2.out]; exact decide_eq_false (by omega)))
            subst hla
            go_wp2_with fail
            clear hX
            refine wp_region_kept X.heap.size X (by kernel_rfl) (by kernel_rfl) (Below.refl _ _) ?_
            repeat (go_big_quiet_step (first | (go_at_call 43; exact Kept.calls (Nat.le_refl _) (kV.out _)) | (go_at_call 44; exact Kept.calls (Nat.le_refl _) (kC.out _))))
            refine wpQuiet_nil ?_
            rintro w5 ⟨⟨_, hb5⟩, rfl⟩
            go_wp2_with fail
            go_ret
            exact ⟨ret_bool HF.out, after_ BX hb5⟩
          · have q2 : decide (0 ≤ cr) = false := decide_eq_false hc
            have HS2 : Hid (M.vscan M.vLoad M.cmp5 l (k + 1) = true) := Lib.hid (by rw [HSS.out, HS.out, HVN2.out]; exact decide_eq_true (by omega))
            subst hla
            go_wp2_with fail
            clear hX
            refine wp_region_kept X.heap.size X (by kernel_rfl) (by kernel_rfl) (Below.refl _ _) ?_
            repeat (go_big_quiet_step (first | (go_at_call 43; exact Kept.calls (Nat.le_refl _) (kV.out _)) | (go_at_call 44; exact Kept.calls (Nat.le_refl _) (kC.out _))))
            refine wpQuiet_nil ?_
            rintro w5 ⟨⟨_, hb5⟩, rfl⟩
            go_wp2_with fail
            go_roundw
            case rel => exact ⟨k + 1, hlt, by go_num, after_ BX hb5, HS2⟩
            case measure => simp [intOf]; omega
        · have HS2 : Hid (M.vscan M.vLoad M.cmp5 l (k + 1) = true) := Lib.hid (by rw [HSS.out, HS.out, HVF.out hv h0]; rfl)
          have hk0 : decide (0 < k) = false := decide_eq_false h0
          clear h0
          subst hla
          go_wp2_with fail
          clear hX
          refine wp_region_kept X.heap.size X (by kernel_rfl) (by kernel_rfl) (Below.refl _ _) ?_
          repeat (go_big_quiet_step ((go_at_call 43; exact Kept.calls (Nat.le_refl _) (kV.out _))))
          refine wpQuiet_nil ?_
          rintro w5 ⟨⟨_, hb5⟩, rfl⟩
          go_wp2_with fail
          go_roundw
          case rel => exact ⟨k + 1, hlt, by go_num, after_ BX hb5, HS2⟩
          case measure => simp [intOf]; omega
    · obtain rfl : k = l.length := by omega
      have HF := Lib.hid (HYES.out HS.out)
      go_wp2_with fail
      go_ret
      exact ⟨ret_bool HF.out, hB⟩
theorem compareCaps_any (p q : P4) (w : World) : Calls Tryz.prog 47 #[p4v p, p4v q] w fun e w' => e = .returned (.int .i64 (M.cmp4 p q)) ∧ Below w.heap.size w w' :=
  (compareCaps_grow p q w).mono fun _ _ ⟨he, n, hw⟩ => ⟨he, by
    rw [hw]
    exact (below_drewN (((Below.refl w.heap.size w).alloc (Nat.le_refl _) _).alloc (by simp) _) n).alloc (by simp [World.drewN]; omega) _⟩
set_option maxHeartbeats 8000000 in
theorem vlistCaps_any (most : Nat) (A : Option Addr) (c : Nat) (l : List P4) (w : World) (hA : Sl 4 p4cell w w.heap.size A l) (hm : most ≤ 5000) (hl : l.length ≤ 9223372036854775807) :
    Calls Tryz.prog 45 #[.slice A l.length c, .int .i64 most, .func (.func 46) #[] #[], .func (.func 47) #[] #[]] w fun e w' => e = .returned (.bool (M.vlist most M.vCap M.cmp4 l)) ∧ Below w.heap.size w w' := by
  obtain ⟨r, hr⟩ : ∃ r, M.vlist most M.vCap M.cmp4 l = r := ⟨_, rfl⟩
  have HNO : Hid (∀ k, k < l.length → M.vstep M.vCap M.cmp4 l k = false → false = r) := Lib.hid (fun k hk h => by rw [← hr]; exact (M.vlist_no hk h).symm)
  have HR := Lib.hid hr
  rw [hr]
  clear hr
  by_cases hlm : most < l.length
  · have q1 : decide ((most : Int) < (l.length : Int)) = true := decide_eq_true (by omega)
    have HF : Hid (false = r) := Lib.hid (by rw [← HR.out]; unfold M.vlist; rw [decide_eq_false (by omega), Bool.false_and])
    go_enter Tryz.func45, Tryz.ntmps45
    go_wp2_with fail
    go_ret
    exact ⟨ret_bool HF.out, Below.refl _ _⟩
  have q1 : decide ((most : Int) < (l.length : Int)) = false := decide_eq_false (by omega)
  have HYES : Hid (M.vscan M.vCap M.cmp4 l l.length = true → true = r) := Lib.hid (fun h => by rw [← HR.out]; unfold M.vlist; rw [decide_eq_true (by omega), h]; rfl)
  go_enter Tryz.func45, Tryz.ntmps45
  go_wp2_with fail
  clear q1
  go_loopw [9, 10, 17] (fun _ _ i wr => ∃ k : Nat, k ≤ l.length ∧ i = .int .i64 k ∧ Below w.heap.size w wr ∧ Hid (M.vscan M.vCap M.cmp4 l k = true)) (fun _ _ i _ => l.length - (intOf i).toNat)
  case atStart => exact ⟨0, Nat.zero_le _, rfl, Below.refl _ _, Lib.hid rfl⟩
  case round =>
    obtain ⟨k, hk, rfl, hB, HS⟩ := hrel
    by_cases hlt : k < l.length
    · obtain ⟨la, hla, hlb, a0, hj⟩ := ((hA.below hB).more hB.size).sp (by decide) hlt
      have a1 := hj 1 (by decide) (by decide)
      have a2 := hj 2 (by decide) (by decide)
      have a3 := hj 3 (by decide) (by decide)
      clear hj
      have HSS := Lib.hid (M.vscan_succ M.vCap M.cmp4 l k)
      have HNk := Lib.hid (HNO.out k hlt)
      have HV0 := Lib.hid (M.vstep0 (v := M.vCap) (cf := M.cmp4) hlt)
      have HVF := Lib.hid (M.vstepF (v := M.vCap) (cf := M.cmp4) hlt)
      have HVN := Lib.hid (M.vstepN (v := M.vCap) (cf := M.cmp4) hlt)
      obtain ⟨x, hx⟩ : ∃ x, l[k] = x := ⟨_, rfl⟩
      rw [hx] at a0 a1 a2 a3 HV0 HVF HVN
      clear hx
      simp only [p4cell] at a0 a1 a2 a3
      obtain ⟨X, HX, u0, hbX, -⟩ := boxes1 wr (p4c x) 71
      have BX := after_ hB hbX
      have l0 := u0.lt
      obtain ⟨m0, m1, m2, m3⟩ := u0.c4
      have hX := HX.out
      have kV0 := fun w1 => validCap_any x w1
      cases hv : M.vCap x with
      | false =>
        rw [hv] at kV0
        have kV := Lib.hid kV0
        clear kV0
        have kC : Hid True := Lib.hid trivial
        have HF := Lib.hid (HNk.out (HV0.out hv))
        subst hla
        go_wp2_with fail
        clear hX
        refine wp_region_kept X.heap.size X (by kernel_rfl) (by kernel_rfl) (Below.refl _ _) ?_
        repeat (go_big_quiet_step ((go_at_call 46; exact Kept.calls (Nat.le_refl _) (kV.out _))))
        refine wpQuiet_nil ?_
        rintro w5 ⟨⟨_, hb5⟩, rfl⟩
        go_wp2_with fail
        go_ret
        exact ⟨ret_bool HF.out, after_ BX hb5⟩
      | true =>
        rw [hv] at kV0
        have kV := Lib.hid kV0
        clear kV0
        by_cases h0 : 0 < k
        · obtain ⟨la2, hla2, hlb2, p0, hj2⟩ := ((hA.below hB).more hB.size).sp (k := k - 1) (by decide) (by omega)
          obtain rfl : la = la2 := Option.some.inj (hla.symm.trans hla2)
          have p1 := hj2 1 (by decide) (by decide)
          have p2 := hj2 2 (by decide) (by decide)
          have p3 := hj2 3 (by decide) (by decide)
          clear hj2 hla2
          have hvn := HVN.out hv h0
          obtain ⟨y, hy⟩ : ∃ y, l[k - 1] = y := ⟨_, rfl⟩
          rw [hy] at p0 p1 p2 p3 hvn
          clear hy
          simp only [p4cell] at p0 p1 p2 p3
          have l2 : (la.add ((k - 1) * 4)).block < X.heap.size := Nat.lt_of_lt_of_le hlb2 hbX.size
          have s0 := (hbX.cell (p := la.add ((k - 1) * 4)) hlb2).trans p0
          have s1 := (hbX.cell (p := ⟨(la.add ((k - 1) * 4)).block, (la.add ((k - 1) * 4)).off + 1, none⟩) hlb2).trans p1
          have s2 := (hbX.cell (p := ⟨(la.add ((k - 1) * 4)).block, (la.add ((k - 1) * 4)).off + 2, none⟩) hlb2).trans p2
          have s3 := (hbX.cell (p := ⟨(la.add ((k - 1) * 4)).block, (la.add ((k - 1) * 4)).off + 3, none⟩) hlb2).trans p3
          have kC := Lib.hid (fun w1 => compareCaps_any y x w1)
          have HVN2 := Lib.hid hvn
          clear hvn p0 p1 p2 p3
          generalize M.cmp4 y x = cr at *
          by_cases hc : 0 ≤ cr
          · have q2 : decide (0 ≤ cr) = true := decide_eq_true hc
            have HF := Lib.hid (HNk.out (by rw [HVN2.out]; exact decide_eq_false (by omega)))
            subst hla
            go_wp2_with fail
            clear hX
            refine wp_region_kept X.heap.size X (by kernel_rfl) (by kernel_rfl) (Below.refl _ _) ?_
            repeat (go_big_quiet_step (first | (go_at_call 46; exact Kept.calls (Nat.le_refl _) (kV.out _)) | (go_at_call 47; exact Kept.calls (Nat.le_refl _) (kC.out _))))
            refine wpQuiet_nil ?_
            rintro w5 ⟨⟨_, hb5⟩, rfl⟩
            go_wp2_with fail
            go_ret
            exact ⟨ret_bool HF.out, after_ BX hb5⟩
          · have q2 : decide (0 ≤ cr) = false := decide_eq_false hc
            have HS2 : Hid (M.vscan M.vCap M.cmp4 l (k + 1) = true) := Lib.hid (by rw [HSS.out, HS.out, HVN2.out]; exact decide_eq_true (by omega))
            subst hla
            go_wp2_with fail
            clear hX
            refine wp_region_kept X.heap.size X (by kernel_rfl) (by kernel_rfl) (Below.refl _ _) ?_
            repeat (go_big_quiet_step (first | (go_at_call 46; exact Kept.calls (Nat.le_refl _) (kV.out _)) | (go_at_call 47; exact Kept.calls (Nat.le_refl _) (kC.out _))))
            refine wpQuiet_nil ?_
            rintro w5 ⟨⟨_, hb5⟩, rfl⟩
            go_wp2_with fail
            go_roundw
            case rel => exact ⟨k + 1, hlt, by go_num, after_ BX hb5, HS2⟩
            case measure => simp [intOf]; omega
        · have HS2 : Hid (M.vscan M.vCap M.cmp4 l (k + 1) = true) := Lib.hid (by rw [HSS.out, HS.out, HVF.out hv h0]; rfl)
          have hk0 : decide (0 < k) = false := decide_eq_false h0
          clear h0
          subst hla
          go_wp2_with fail
          clear hX
          refine wp_region_kept X.heap.size X (by kernel_rfl) (by kernel_rfl) (Below.refl _ _) ?_
          repeat (go_big_quiet_step ((go_at_call 46; exact Kept.calls (Nat.le_refl _) (kV.out _))))
          refine wpQuiet_nil ?_
          rintro w5 ⟨⟨_, hb5⟩, rfl⟩
          go_wp2_with fail
          go_roundw
          case rel => exact ⟨k + 1, hlt, by go_num, after_ BX hb5, HS2⟩
          case measure => simp [intOf]; omega
    · obtain rfl : k = l.length := by omega
      have HF := Lib.hid (HYES.out HS.out)
      go_wp2_with fail
      go_ret
      exact ⟨ret_bool HF.out, hB⟩
end Go.Proofs.YtciolgmljpamlaaGreatDoor
end
