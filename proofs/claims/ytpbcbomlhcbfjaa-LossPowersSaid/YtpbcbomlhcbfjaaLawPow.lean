/- The walk of the law LossPowers. -/
import Derived.Test.YtpbcbomlhcbfjaaLawA
import Derived.Test.YtpbcbomlhcbfjaaCmp
namespace Go.Proofs.Ytpbcbomlhcbfjaa
open Go Go.RowKit

theorem M.cmp_le {a b : Nat} (h : a ≤ b) : M.cmpI a b ≤ 0 := by
  unfold M.cmpI
  split
  · decide
  · rw [if_pos (by omega)]; decide
theorem M.cmp_lt {a b : Nat} (h : a < b) : M.cmpI a b = -1 := by unfold M.cmpI; rw [if_pos h]
theorem M.free_pow {n : Nat} (h0 : n ≠ 0) : 10 ^ M.free n ≤ n ^ 20 ∧ n ^ 20 < 10 ^ (M.free n + 1) := by
  have hp : n ^ 20 ≠ 0 := Nat.ne_of_gt (Nat.pow_pos (by omega))
  have h1 := M.nd_pos hp
  unfold M.free
  rw [if_neg h0]
  constructor
  · apply Nat.le_of_not_lt; intro h
    have := M.nd_le.2 h
    omega
  · rw [show M.nd (n ^ 20) - 1 + 1 = M.nd (n ^ 20) by omega]
    exact M.nd_le.1 (Nat.le_refl _)
theorem M.bl_ten {k : Nat} (h : k ≤ 79) : M.bl (10 ^ k) ≤ 512 := by
  have h1 : 10 ^ k ≤ 10 ^ 79 := Nat.pow_le_pow_right (by decide) h
  have h2 : M.bl (10 ^ 79) ≤ 512 := by decide +kernel
  exact Nat.le_trans (M.bl_mono h1) h2
theorem M.free_78 {n : Nat} (h0 : n ≠ 0) (h : n ≤ 7938) : M.free n ≤ 77 := by
  have h1 : n ^ 20 ≤ 7938 ^ 20 := Nat.pow_le_pow_left h 20
  have h2 : (7938 : Nat) ^ 20 < 10 ^ 78 := by decide +kernel
  have := M.nd_le.2 (Nat.lt_of_le_of_lt h1 h2)
  unfold M.free
  rw [if_neg h0]; omega
/-- Power of 10 with an exponent from 0 on. -/
theorem power_ten (k base : Nat) (v : Value) (w : World) (hv : IsInt w base 10 v) (hk : k ≤ 79) : Calls Try.prog 21 #[v, .int .i64 (k : Int)] w (RetI w (10 ^ k)) := by
  by_cases h : k = 0
  · subst h
    exact power_zero 10 base v w hv (by decide +kernel)
  · exact power_ok 10 k base v w hv (by decide) (by omega) (by omega) (M.bl_ten hk)

set_option maxHeartbeats 8000000 in
theorem lossPowers_walk (n : Int) (w : World) : Calls Try.prog 8 #[.int .i64 n] w (LawTrue w) := by
  by_cases h1 : n < 1
  · have q1 : decide (n < 1) = true := decide_eq_true h1
    go_enter Try.func8, Try.ntmps8
    go_wp2_with fail
    refine (known_any w).mono ?_
    rintro e w3 ⟨rfl, hb3⟩
    go_wp2_with fail
    go_ret
    exact ⟨rfl, hb3⟩
  · have q1 : decide (n < 1) = false := decide_eq_false h1
    by_cases h2 : 7938 < n
    · have q2 : decide (7938 < n) = true := decide_eq_true h2
      go_enter Try.func8, Try.ntmps8
      go_wp2_with fail
      refine (known_any w).mono ?_
      rintro e w3 ⟨rfl, hb3⟩
      go_wp2_with fail
      go_ret
      exact ⟨rfl, hb3⟩
    · have q2 : decide (7938 < n) = false := decide_eq_false h2
      obtain ⟨N, rfl⟩ := Int.eq_ofNat_of_zero_le (show 0 ≤ n by omega)
      have hN0 : N ≠ 0 := by omega
      have hN : N ≤ 7938 := by omega
      obtain ⟨p1, p2⟩ := M.free_pow hN0
      have hF := M.free_78 hN0 hN
      have HB := Lib.hid (M.bl20 hN)
      have HC1 := Lib.hid (M.cmp_le p1)
      have HC2 := Lib.hid (M.cmp_lt p2)
      clear p1 p2
      go_enter Try.func8, Try.ntmps8
      go_wp2_with fail
      refine (free_ok N w hN).mono ?_
      rintro e w1 ⟨rfl, hb1⟩
      generalize M.free N = F at *
      have q3 : decide ((F : Int) < 0) = false := by simp
      go_wp2_with fail
      refine (refOf_ok N w1 (by omega)).mono ?_
      rintro e w2 ⟨v2, rfl, hv2, hb2⟩
      have B2 := after_ hb1 hb2
      go_wp2_with fail
      refine (power_ok N 20 _ v2 w2 hv2 (by omega) (by decide) (by decide) HB.out).mono ?_
      rintro e w3 ⟨v3, rfl, hv3, hb3⟩
      have B3 := after_ B2 hb3
      obtain ⟨pA, pc, rfl, hpf, hpS⟩ := hv3
      obtain ⟨V1, HV1, x1, hBV1, -⟩ := boxes1 w3 #[.bool false, .slice pA (M.byt (N ^ 20)).length pc] 48
      have BV1 := after_ B3 hBV1
      have hpS1 := (hpS.below hBV1).more hBV1.size
      clear hpS hv2 hb1 hb2 hb3 B2 B3
      generalize hP : N ^ 20 = PP at *
      clear hP
      go_wp2_with fail
      rw [HV1.out]
      refine (refOf_ok 10 V1 (by decide)).mono ?_
      rintro e w4 ⟨v4, rfl, hv4, hb4⟩
      have B4 := after_ BV1 hb4
      have x2 := x1.below hb4
      have hpS2 := (hpS1.below hb4).more hb4.size
      go_wp2_with fail
      refine (power_ten F _ v4 w4 hv4 (by omega)).mono ?_
      rintro e w5 ⟨v5, rfl, hv5, hb5⟩
      have B5 := after_ B4 hb5
      have x3 := x2.below hb5
      have hpS3 := (hpS2.below hb5).more hb5.size
      obtain ⟨qA, qc, rfl, hqf, hqS⟩ := hv5
      obtain ⟨V2, HV2, y1, hBV2, -⟩ := boxes1 w5 #[.bool false, .slice qA (M.byt (10 ^ F)).length qc] 48
      have BV2 := after_ B5 hBV2
      have x4 := x3.below hBV2
      have hpS4 := (hpS3.below hBV2).more hBV2.size
      have hqS1 := (hqS.below hBV2).more hBV2.size
      have HBQ := Lib.hid (M.bl_ten (k := F) (by omega))
      clear hpS1 hpS2 hpS3 hqS hv4 hb4 hb5 B4 B5 BV1 x1 x2 x3
      generalize hQ : 10 ^ F = QQ at *
      go_wp2_with fail
      rw [HV2.out]
      refine (refOf_ok 10 V2 (by decide)).mono ?_
      rintro e w6 ⟨v6, rfl, hv6, hb6⟩
      have B6 := after_ BV2 hb6
      have x5 := x4.below hb6
      have y2 := y1.below hb6
      have hpS5 := (hpS4.below hb6).more hb6.size
      have hqS2 := (hqS1.below hb6).more hb6.size
      clear hQ
      go_wp2_with fail
      refine (power_ten (F + 1) _ v6 w6 hv6 (by omega)).mono ?_
      rintro e w7 ⟨v7, rfl, hv7, hb7⟩
      have B7 := after_ B6 hb7
      have x6 := x5.below hb7
      have y3 := y2.below hb7
      have hpS6 := (hpS5.below hb7).more hb7.size
      have hqS3 := (hqS2.below hb7).more hb7.size
      obtain ⟨rA, rc, rfl, hrf, hrS⟩ := hv7
      obtain ⟨V3, HV3, z1, hBV3, -⟩ := boxes1 w7 #[.bool false, .slice rA (M.byt (10 ^ (F + 1))).length rc] 48
      have BV3 := after_ B7 hBV3
      have x7 := x6.below hBV3
      have y4 := y3.below hBV3
      have hpS7 := (hpS6.below hBV3).more hBV3.size
      have hqS4 := (hqS3.below hBV3).more hBV3.size
      have hrS1 := (hrS.below hBV3).more hBV3.size
      have HBR := Lib.hid (M.bl_ten (k := F + 1) (by omega))
      clear hpS4 hpS5 hpS6 hqS1 hqS2 hqS3 hrS hv6 hb6 hb7 B6 B7 BV2 x4 x5 x6 y1 y2 y3
      generalize 10 ^ (F + 1) = RR at *
      obtain ⟨c0, c1⟩ := x7.c2
      obtain ⟨d0, d1⟩ := y4.c2
      obtain ⟨e0, e1⟩ := z1.c2
      have hV3 := HV3.out
      go_wp2_with fail
      clear hV3
      refine (compare_ok QQ PP 0 0 _ _ V3 ⟨qA, qc, rfl, fun _ _ => Nat.zero_le _, hqS4⟩ ⟨pA, pc, rfl, fun _ _ => Nat.zero_le _, hpS7⟩ HBQ.out HB.out).mono ?_
      rintro e w8 ⟨rfl, hb8⟩
      have B8 := after_ BV3 hb8
      have hc1 := HC1.out
      generalize M.cmpI QQ PP = C1 at *
      have q5 : decide (C1 ≤ 0) = true := decide_eq_true hc1
      clear c0 c1 d0 d1 e0 e1
      obtain ⟨c0, c1⟩ := (x7.below hb8).c2
      obtain ⟨e0, e1⟩ := (z1.below hb8).c2
      go_wp2_with fail
      refine (compare_ok PP RR 0 0 _ _ w8 ⟨pA, pc, rfl, fun _ _ => Nat.zero_le _, (hpS7.below hb8).more hb8.size⟩ ⟨rA, rc, rfl, fun _ _ => Nat.zero_le _, (hrS1.below hb8).more hb8.size⟩ HB.out HBR.out).mono ?_
      rintro e w9 ⟨rfl, hb9⟩
      have B9 := after_ B8 hb9
      rw [HC2.out]
      go_wp2_with fail
      refine (known_any w9).mono ?_
      rintro e w10 ⟨rfl, hb10⟩
      go_wp2_with fail
      go_ret
      exact ⟨rfl, after_ B9 hb10⟩
end Go.Proofs.Ytpbcbomlhcbfjaa
