/- The law package of layer 11: same, free, known. -/
import Derived.Test.YtpbcbomlhcbfjaaTotal
namespace Go.Proofs.Ytpbcbomlhcbfjaa
open Go Go.RowKit

theorem take_snoc {α : Type} {xs : List α} {k : Nat} (h : k < xs.length) : xs.take (k + 1) = xs.take k ++ [xs[k]] := by
  rw [List.take_succ_eq_append_getElem h]

set_option maxHeartbeats 1000000 in
theorem same_any (A D : Option Addr) (c d B : Nat) (xs ys : List (Int × Int)) (w : World) (ha : Sl 2 ccell w B A xs) (hb : Sl 2 ccell w B D ys) (lx : xs.length ≤ 9223372036854775807) :
    Calls Try.prog 17 #[.slice A xs.length c, .slice D ys.length d] w fun e w' => e = .returned (.bool (decide (xs = ys))) ∧ ∃ n, w' = w.drewN n := by
  by_cases hl : xs.length = ys.length
  · have h1 : ((xs.length : Int) != (ys.length : Int)) = false := by simp [hl]
    have HL := Lib.hid hl
    clear hl
    go_enter Try.func17, Try.ntmps17
    go_wp2
    go_loopw [5] (fun i wr => ∃ k nd : Nat, k ≤ xs.length ∧ i = .int .i64 k ∧ wr = w.drewN nd ∧ Hid (xs.take k = ys.take k)) (fun i _ => xs.length - (intOf i).toNat)
    case atStart => exact ⟨0, 0, Nat.zero_le _, rfl, rfl, Lib.hid (by simp)⟩
    case round =>
      obtain ⟨k, nd, hk, rfl, rfl, HT⟩ := hrel
      by_cases hlt : k < xs.length
      · have hlt2 : k < ys.length := by have := HL.out; omega
        obtain ⟨a1, rfl, _, c1, hc1⟩ := ha.sp (by omega) hlt
        obtain ⟨a2, rfl, _, c3, hc2⟩ := hb.sp (by omega) hlt2
        have HX := Lib.hid (take_snoc hlt)
        have HY := Lib.hid (take_snoc hlt2)
        have c2 := hc1 1 (by omega) (by omega)
        have c4 := hc2 1 (by omega) (by omega)
        clear hc1 hc2
        generalize xs[k] = x at *
        generalize ys[k] = y at *
        obtain ⟨x1, x2⟩ := x
        obtain ⟨y1, y2⟩ := y
        simp only [ccell] at c1 c2 c3 c4
        simp at c1 c2 c3 c4
        go_wp2
        by_cases he : (x1, x2) = (y1, y2)
        · obtain ⟨rfl, rfl⟩ := Prod.mk.inj he
          clear he
          go_quiet (fail)
          go_wp2
          go_roundw
          case rel => exact ⟨k + 1, _, hlt, by go_num, rfl, Lib.hid (by rw [HX.out, HY.out, HT.out])⟩
          case measure => simp [intOf]; omega
        · have hE := Lib.hid he
          have fin : Hid (decide (xs = ys) = false) := Lib.hid (decide_eq_false fun e => by
            have := HX.out
            rw [e, HY.out] at this
            have h2 := List.append_inj_right' this rfl
            exact hE.out (by simpa using h2.symm))
          by_cases h1 : x1 = y1
          · obtain rfl := h1
            have h2 : ¬ x2 = y2 := fun e => he (by rw [e])
            clear he
            go_quiet (fail)
            go_wp2
            go_ret
            exact ⟨ret_bool (a := false) fin.out.symm, _, World.drewN_drewN _ _ _⟩
          · clear he
            go_quiet (fail)
            go_wp2
            go_ret
            exact ⟨ret_bool (a := false) fin.out.symm, _, World.drewN_drewN _ _ _⟩
      · have hkl : k = xs.length := by omega
        have HK := Lib.hid hkl
        clear hkl
        go_wp2
        go_ret
        refine ⟨ret_bool (a := true) (Eq.symm (decide_eq_true ?_)), _, rfl⟩
        have := HT.out
        rw [List.take_of_length_le (by have := HK.out; omega), List.take_of_length_le (by have := HK.out; have := HL.out; omega)] at this
        exact this
  · have h1 : ((xs.length : Int) != (ys.length : Int)) = true := by simp; omega
    have HL := Lib.hid hl
    clear hl
    go_enter Try.func17, Try.ntmps17
    go_wp2
    go_ret
    exact ⟨ret_bool (a := false) (Eq.symm (decide_eq_false fun e => HL.out (by rw [e]))), 0, rfl⟩

theorem M.free_eq {n k : Nat} (h0 : n ≠ 0) (h1 : 10 ^ k ≤ n ^ 20) (h2 : n ^ 20 < 10 ^ (k + 1)) : M.free n = k := by
  unfold M.free
  rw [if_neg h0]
  have a := M.nd_le.2 h2
  have b : ¬ M.nd (n ^ 20) ≤ k := fun h => by have := M.nd_le.1 h; omega
  omega

theorem lawFree_ok (n k : Nat) (w : World) (hn : n ≤ 7938) (h : Hid (M.free n = k)) : Calls Try.prog 26 #[.int .i64 (n : Int), .int .i64 (k : Int)] w fun e w' => e = .returned (.bool true) ∧ Below w.heap.size w w' := by
  go_enter Try.func26, Try.ntmps26
  go_wp2_with fail
  refine (free_ok n w hn).mono ?_
  rintro e w1 ⟨rfl, hb1⟩
  rw [h.out]
  have q : ((k : Int) == (k : Int)) = true := by simp
  go_wp2_with fail
  go_ret
  exact ⟨rfl, hb1⟩

theorem M.obs_ex1 : M.obst 5 [0, 10, 0, 20, 0] 0 0 10 4 0 10 = [(1, 0), (3, 0)] := by decide +kernel
theorem M.obs_ex2 : M.obst 5 [0, 10, 0, 20, 0] 0 0 11 4 0 10 = [(3, 0)] := by decide +kernel
theorem M.obs_ex3 : M.obst 5 [0, 10, 0, 20, 0] 0 0 0 4 0 80 = [] := by decide +kernel
theorem M.ok_ex1 : M.okObs 5 1 [0, 10, 0, 20, 0] [0, 0, 0, 0, 0] 0 0 10 4 0 10 = true := by decide +kernel
theorem M.ok_ex2 : M.okObs 5 1 [0, 10, 0, 20, 0] [0, 0, 0, 0, 0] 0 0 11 4 0 10 = true := by decide +kernel
theorem M.ok_ex3 : M.okObs 5 1 [0, 10, 0, 20, 0] [0, 0, 0, 0, 0] 0 0 0 4 0 80 = true := by decide +kernel
theorem M.ok_ex4 : M.okObs 5 1 [0, 10, 0, 20, 0] [0, 0, 0, 0, 0] 0 0 501 4 0 0 = false := by decide +kernel
theorem M.tot_ex : M.tot 5 [0, 10, 0, 20, 0] 0 0 10 4 0 10 = 48 := by
  unfold M.tot
  rw [M.obs_ex1, show (M.sq 0 0 4 0).toNat = 16 from by decide +kernel, M.free_eq (n := 16) (k := 24) (by decide) (by decide +kernel) (by decide +kernel)]
  decide

set_option maxRecDepth 100000 in
set_option maxHeartbeats 8000000 in
theorem known_any (w : World) : Calls Try.prog 10 #[] w fun e w' => e = .returned (.bool true) ∧ Below w.heap.size w w' := by
  go_enter Try.func10, Try.ntmps10
  go_wp2_with fail
  refine (free_no 7939 w (by decide)).mono ?_
  rintro e w0 ⟨rfl, rfl⟩
  go_wp2_with fail
  refine (square_ok 0 0 3 4 w (by unfold M.c63; decide) (by unfold M.c63; decide) (by unfold M.c63; decide) (by unfold M.c63; decide)).mono ?_
  rintro e w1 ⟨rfl, B1⟩
  rw [show M.sq 0 0 3 4 = 25 from by decide]
  go_wp2_with fail
  refine (square_no 0 0 0 64 w1 (by decide)).mono ?_
  rintro e w2 ⟨rfl, hb2⟩
  have B2 := after_ B1 hb2
  go_wp2_with fail
  refine (lawFree_ok 0 0 w2 (by decide) (Lib.hid rfl)).mono ?_
  rintro e w3 ⟨rfl, hb3⟩
  have B3 := after_ B2 hb3
  go_wp2_with fail
  refine (lawFree_ok 1 0 w3 (by decide) (Lib.hid (M.free_eq (by decide) (by decide) (by decide)))).mono ?_
  rintro e w4 ⟨rfl, hb4⟩
  have B4 := after_ B3 hb4
  go_wp2_with fail
  refine (lawFree_ok 2 6 w4 (by decide) (Lib.hid (M.free_eq (by decide) (by decide +kernel) (by decide +kernel)))).mono ?_
  rintro e w5 ⟨rfl, hb5⟩
  have B5 := after_ B4 hb5
  go_wp2_with fail
  refine (lawFree_ok 10 20 w5 (by decide) (Lib.hid (M.free_eq (by decide) (by decide +kernel) (by decide +kernel)))).mono ?_
  rintro e w6 ⟨rfl, hb6⟩
  have B6 := after_ B5 hb6
  go_wp2_with fail
  refine (lawFree_ok 100 40 w6 (by decide) (Lib.hid (M.free_eq (by decide) (by decide +kernel) (by decide +kernel)))).mono ?_
  rintro e w7 ⟨rfl, hb7⟩
  have B7 := after_ B6 hb7
  go_wp2_with fail
  refine (lawFree_ok 7938 77 w7 (by decide) (Lib.hid (M.free_eq (by decide) (by decide +kernel) (by decide +kernel)))).mono ?_
  rintro e w8 ⟨rfl, hb8⟩
  have B8 := after_ B7 hb8
  clear B1 B2 B3 B4 B5 B6 B7 hb2 hb3 hb4 hb5 hb6 hb7 hb8
  obtain ⟨V, HW, x0, x1, x2, x3, hB, -⟩ := boxes4 w8 #[.int .i64 0, .int .i64 10, .int .i64 0, .int .i64 20, .int .i64 0] 3 #[.int .i64 0, .int .i64 0, .int .i64 0, .int .i64 0, .int .i64 0] 3 #[.int .i64 5, .int .i64 1, .slice (some ⟨w8.heap.size, 0, none⟩) 5 5, .slice (some ⟨w8.heap.size + 1, 0, none⟩) 5 5] 35 #[.int .i64 4, .int .i64 0] 29
  go_wp2_with fail
  rw [HW.out]
  have BV := after_ B8 hB
  have hg0 : Sl 1 icell V V.heap.size (some ⟨w8.heap.size, 0, none⟩) ([0, 10, 0, 20, 0] : List Int) := Sl.of_box x0 rfl
  have hp0 : Sl 1 icell V V.heap.size (some ⟨w8.heap.size + 1, 0, none⟩) ([0, 0, 0, 0, 0] : List Int) := Sl.of_box x1 rfl
  refine (obs_ok 5 1 _ _ 5 5 [0, 10, 0, 20, 0] [0, 0, 0, 0, 0] 0 0 10 4 0 10 V hg0 hp0 M.ok_ex1).mono ?_
  rintro e v1 ⟨O1, oc1, rfl, S1, h1⟩
  rw [M.obs_ex1] at *
  have B1 := after_ BV h1
  have hg1 := (hg0.below h1).more h1.size
  have hp1 := (hp0.below h1).more h1.size
  have y2 := x2.below h1
  have y3 := x3.below h1
  obtain ⟨c0, c1, c2, c3⟩ := y2.c4
  obtain ⟨d0, d1⟩ := y3.c2
  clear x0 x1 x2 x3 hg0 hp0 h1 BV B8 hB
  go_wp2_with fail
  refine (obs_ok 5 1 _ _ 5 5 [0, 10, 0, 20, 0] [0, 0, 0, 0, 0] 0 0 11 4 0 10 v1 hg1 hp1 M.ok_ex2).mono ?_
  rintro e v2 ⟨O2, oc2, rfl, S2, h2⟩
  rw [M.obs_ex2] at *
  have B2 := after_ B1 h2
  have hg2 := (hg1.below h2).more h2.size
  have hp2 := (hp1.below h2).more h2.size
  have S12 := (S1.below h2).more h2.size
  have z2 := y2.below h2
  have z3 := y3.below h2
  clear c0 c1 c2 c3 d0 d1 y2 y3 hg1 hp1 h2 B1 S1
  obtain ⟨c0, c1, c2, c3⟩ := z2.c4
  obtain ⟨d0, d1⟩ := z3.c2
  go_wp2_with fail
  refine (obs_ok 5 1 _ _ 5 5 [0, 10, 0, 20, 0] [0, 0, 0, 0, 0] 0 0 0 4 0 80 v2 hg2 hp2 M.ok_ex3).mono ?_
  rintro e v3 ⟨O3, oc3, rfl, S3, h3⟩
  rw [M.obs_ex3] at *
  have B3 := after_ B2 h3
  have hg3 := (hg2.below h3).more h3.size
  have hp3 := (hp2.below h3).more h3.size
  have S13 := (S12.below h3).more h3.size
  have S23 := (S2.below h3).more h3.size
  have y2 := z2.below h3
  have y3 := z3.below h3
  clear c0 c1 c2 c3 d0 d1 z2 z3 hg2 hp2 h3 B2 S12 S2 S3
  obtain ⟨c0, c1, c2, c3⟩ := y2.c4
  obtain ⟨d0, d1⟩ := y3.c2
  go_wp2_with fail
  refine (total_ok 5 1 _ _ 5 5 [0, 10, 0, 20, 0] [0, 0, 0, 0, 0] 0 0 10 4 0 10 v3 hg3 hp3 M.ok_ex1).mono ?_
  rintro e v4 ⟨rfl, h4⟩
  rw [M.tot_ex]
  have B4 := after_ B3 h4
  have hg4 := (hg3.below h4).more h4.size
  have hp4 := (hp3.below h4).more h4.size
  have S14 := (S13.below h4).more h4.size
  have S24 := (S23.below h4).more h4.size
  have z2 := y2.below h4
  have z3 := y3.below h4
  clear c0 c1 c2 c3 d0 d1 y2 y3 hg3 hp3 h4 B3 S13 S23
  obtain ⟨c0, c1, c2, c3⟩ := z2.c4
  obtain ⟨d0, d1⟩ := z3.c2
  go_wp2_with fail
  refine (total_no 5 1 _ _ 5 5 [0, 10, 0, 20, 0] [0, 0, 0, 0, 0] 0 0 501 4 0 0 v4 hg4 hp4 (by decide) (by decide) M.ok_ex4).mono ?_
  rintro e v5 ⟨rfl, h5⟩
  have B5 := after_ B4 h5
  have S15 := (S14.below h5).more h5.size
  have S25 := (S24.below h5).more h5.size
  clear c0 c1 c2 c3 d0 d1 z2 z3 hg4 hp4 h5 B4 S14 S24
  obtain ⟨V1, HV1, b1, hB1, -⟩ := boxes1 v5 #[.int .i64 1, .int .i64 0, .int .i64 3, .int .i64 0] 29
  have T1 : Sl 2 ccell V1 V1.heap.size (some ⟨v5.heap.size, 0, none⟩) [((1 : Int), (0 : Int)), (3, 0)] := Sl.of_box b1 rfl
  have S16 := (S15.below hB1).more hB1.size
  have S26 := (S25.below hB1).more hB1.size
  have B6 := after_ B5 hB1
  go_wp2_with fail
  rw [HV1.out]
  refine (same_any _ _ _ 2 _ [((1 : Int), (0 : Int)), (3, 0)] [((1 : Int), (0 : Int)), (3, 0)] V1 S16 T1 (by decide)).mono ?_
  rintro e v7 ⟨rfl, n7, rfl⟩
  rw [decide_eq_true rfl]
  have B7 := below_drewN B6 n7
  have S27 := S26.drewN n7
  have S27' : Sl 2 ccell (V1.drewN n7) (V1.drewN n7).heap.size O2 [((3 : Int), (0 : Int))] := S27
  clear S27 S26 S16 T1 S15 S25 b1 hB1 B5 B6
  generalize V1.drewN n7 = v7 at *
  obtain ⟨V2, HV2, b2, hB2, -⟩ := boxes1 v7 #[.int .i64 3, .int .i64 0] 29
  have T2 : Sl 2 ccell V2 V2.heap.size (some ⟨v7.heap.size, 0, none⟩) [((3 : Int), (0 : Int))] := Sl.of_box b2 rfl
  have S28 := (S27'.below hB2).more hB2.size
  have B8 := after_ B7 hB2
  go_wp2_with fail
  rw [HV2.out]
  refine (same_any _ _ _ 1 _ [((3 : Int), (0 : Int))] [((3 : Int), (0 : Int))] V2 S28 T2 (by decide)).mono ?_
  rintro e v9 ⟨rfl, n9, rfl⟩
  rw [decide_eq_true rfl]
  have B9 := below_drewN B8 n9
  go_wp2_with fail
  go_ret
  exact ⟨rfl, B9⟩
end Go.Proofs.Ytpbcbomlhcbfjaa
