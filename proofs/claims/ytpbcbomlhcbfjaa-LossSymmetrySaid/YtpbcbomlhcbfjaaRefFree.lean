/- The contract of the reference's Free. -/
import Derived.Test.YtpbcbomlhcbfjaaRefOf
import Derived.Test.YtpbcbomlhcbfjaaRefT
import Derived.Test.YtpbcbomlhcbfjaaFree
namespace Go.Proofs.Ytpbcbomlhcbfjaa
open Go Go.RowKit

theorem M.nd_div {n : Nat} (h : 10 ≤ n) : M.nd n = M.nd (n / 10) + 1 := by
  apply Nat.le_antisymm
  · rw [M.nd_le, Nat.pow_succ]
    have := M.nd_le.1 (Nat.le_refl (M.nd (n / 10)))
    omega
  · have h1 : 1 ≤ M.nd n := M.nd_pos (by omega)
    have h2 := M.nd_le.1 (Nat.le_refl (M.nd n))
    have h3 : M.nd (n / 10) ≤ M.nd n - 1 := by
      rw [M.nd_le]
      obtain ⟨j, hj⟩ : ∃ j, M.nd n = j + 1 := ⟨M.nd n - 1, by omega⟩
      rw [hj, Nat.pow_succ] at h2
      rw [hj, Nat.add_sub_cancel]
      omega
    omega
theorem M.nd_small {n : Nat} (h0 : n ≠ 0) (h : n < 10) : M.nd n = 1 := by
  have h1 := M.nd_pos h0
  have h2 : M.nd n ≤ 1 := M.nd_le.2 (by simpa using h)
  omega
theorem M.lb_small {n k : Nat} (hn : n ≤ 7938) (hk : k ≤ 20) : (M.lb (n ^ k)).length ≤ 400 := by
  have h1 : n ^ k ≤ 7938 ^ k := Nat.pow_le_pow_left hn k
  have h2 : 7938 ^ k ≤ 7938 ^ 20 := Nat.pow_le_pow_right (by decide) hk
  have h3 : (7938 : Nat) ^ 20 < 256 ^ 40 := by decide +kernel
  have h4 : (M.lb (n ^ k)).length ≤ 40 := M.lb_len.2 (Nat.lt_of_le_of_lt (Nat.le_trans h1 h2) h3)
  omega
theorem M.lb_mono {m n k : Nat} (h : m ≤ n) (hk : (M.lb n).length ≤ k) : (M.lb m).length ≤ k := M.lb_len.2 (Nat.lt_of_le_of_lt h (M.lb_len.1 hk))
theorem M.ord_ge {n : Nat} (h : 10 ≤ n) : 0 ≤ M.ord n := by unfold M.ord; rw [if_neg (by omega)]; split <;> decide
theorem M.ord_lt {n : Nat} (h : n < 10) : M.ord n = -1 := by unfold M.ord; rw [if_pos h]

set_option maxHeartbeats 4000000 in
theorem refFree_ok (n : Nat) (w : World) (hn : n ≤ 7938) : Calls Try.prog 11 #[.int .i64 (n : Int)] w fun e w' => e = .returned (.int .i64 (M.free n : Nat)) ∧ Below w.heap.size w w' := by
  by_cases h0 : n = 0
  · subst h0
    go_enter Try.func11, Try.ntmps11
    go_wp2_with fail
    go_ret
    exact ⟨rfl, Below.refl _ _⟩
  · have HF : Hid (M.free n = M.nd (n ^ 20) - 1) := Lib.hid (by unfold M.free; rw [if_neg h0])
    have h1 : (n : Int) ≠ 0 := by omega
    have hl1 := M.lb_small hn (k := 1) (by decide)
    rw [Nat.pow_one] at hl1
    have hby : (M.byt n).length ≤ 1000 := by rw [← M.lb_rev, List.length_reverse]; omega
    have hp0 : n ^ 20 ≠ 0 := Nat.ne_of_gt (Nat.pow_pos (by omega))
    have hS0 : Sl 1 bc (w.alloc (.cells #[.int .u8 1] 5)) (w.alloc (.cells #[.int .u8 1] 5)).heap.size (some ⟨w.heap.size, 0, none⟩) [1] := Sl.of_new rfl
    have hB0 := (Below.refl w.heap.size w).alloc (Nat.le_refl _) (.cells #[.int .u8 1] 5)
    go_enter Try.func11, Try.ntmps11
    go_wp2_with fail
    generalize w.alloc (.cells #[.int .u8 1] 5) = W at *
    refine (refOf_ok n W (by omega)).mono ?_
    rintro e w1 ⟨v, rfl, hv, hb1⟩
    go_wp2_with fail
    refine (abs_ok n _ v w1 hv hby).mono ?_
    rintro e w2 ⟨Af, cf, rfl, hSf, hb2⟩
    have hB2 := after_ (after_ hB0 hb1) hb2
    have hS2 := (hS0.below (hb1)).more (after_ (Below.refl _ _) hb1).size
    have hS3 := (hS2.below hb2).more hb2.size
    clear hS2 hS0 hv hb1 hb2 hB0
    go_wp2_with fail
    go_loopw [3, 5] (fun p i wr => ∃ (k : Nat) (A : Option Addr) (c : Nat), k ≤ 20 ∧ i = .int .i64 k ∧ p = .slice A (M.lb (n ^ k)).length c ∧ Sl 1 bc wr wr.heap.size A (M.lb (n ^ k)) ∧ Sl 1 bc wr wr.heap.size Af (M.lb n) ∧ Below w.heap.size w wr) (fun _ i _ => 20 - (intOf i).toNat)
    case atStart => exact ⟨0, _, _, by omega, rfl, rfl, hS3, hSf, hB2⟩
    case round =>
      obtain ⟨k, A, c, hk, rfl, rfl, hS, hSf, hB⟩ := hrel
      by_cases hlt : k < 20
      · go_wp2_with fail
        refine (times_any A Af c cf (n ^ k) n wr hS hSf (M.lb_small hn hk) hl1).mono ?_
        rintro e w3 ⟨A3, c3, rfl, hS3, hb3⟩
        go_wp2_with fail
        go_roundw
        case rel => exact ⟨k + 1, A3, c3, by omega, by go_num, rfl, hS3, (hSf.below hb3).more hb3.size, after_ hB hb3⟩
        case measure => simp [intOf]; omega
      · obtain rfl : k = 20 := by omega
        have hl := M.lb_small hn (k := 20) (by decide)
        have hnd := M.nd_512 hn
        generalize n ^ 20 = P at *
        clear hSf hS3 hB2
        go_wp2_with fail
        go_loopw [3, 6, 7, 8] (fun p k _ _ wr => ∃ (m K : Nat) (A : Option Addr) (c : Nat), m ≠ 0 ∧ M.nd m + K = M.nd P ∧ (M.lb m).length ≤ 400 ∧ k = .int .i64 K ∧ p = .slice A (M.lb m).length c ∧ Sl 1 bc wr wr.heap.size A (M.lb m) ∧ Below w.heap.size w wr) (fun _ k _ _ _ => M.nd P - (intOf k).toNat)
        case atStart => exact ⟨P, 0, A, c, hp0, rfl, hl, rfl, rfl, hS, hB⟩
        case round =>
          obtain ⟨m, K, A, c, hm, hK, hl, rfl, rfl, hS, hB⟩ := hrel
          have hK5 : K ≤ 512 := by omega
          have hS0 := (hS.alloc (Nat.le_refl _) (.cells #[.int .u8 10] 5)).more (B' := (wr.alloc (.cells #[.int .u8 10] 5)).heap.size) (by simp)
          have hB0 := hB.alloc hB.size (.cells #[.int .u8 10] 5)
          have ht : (wr.alloc (.cells #[.int .u8 10] 5)).cell? ⟨wr.heap.size, 0, none⟩ = some (.int .u8 10) := by rw [cell_of_row _ _ _ _ _ _ (heap_alloc_new wr _)]; rfl
          go_wp2_with fail
          refine (order_ten A c 1 _ m _ hS0 (by omega) ht).mono ?_
          rintro e w3 ⟨rfl, nd, rfl⟩
          have hS1 := hS0.drewN nd
          have hB1 := below_drewN hB0 nd
          have hS2 : Sl 1 bc ((wr.alloc (.cells #[.int .u8 10] 5)).drewN nd) ((wr.alloc (.cells #[.int .u8 10] 5)).drewN nd).heap.size A (M.lb m) := hS1
          clear hS0 hB0 ht hS1
          generalize (wr.alloc (.cells #[.int .u8 10] 5)).drewN nd = w3 at *
          by_cases h10 : 10 ≤ m
          · have ho := M.ord_ge h10
            have HN := Lib.hid (M.nd_div h10)
            generalize M.ord m = om at *
            go_wp2_with fail
            refine (tenth_any A c m w3 hS2 (by omega)).mono ?_
            rintro e w4 ⟨A4, c4, rfl, hS4, hb4⟩
            go_wp2_with fail
            go_roundw
            case rel => exact ⟨_, _, _, _, _, _, _, _, _, _, _, _, _, _, _, _, ⟨m / 10, K + 1, A4, c4, by omega, by have := HN.out; omega, M.lb_mono (Nat.div_le_self _ _) hl, by go_num, rfl, hS4, after_ hB1 hb4⟩, rfl⟩
            case measure => have := HN.out; simp [intOf]; omega
          · have ho := M.ord_lt (Nat.lt_of_not_le h10)
            have HN := Lib.hid (M.nd_small hm (Nat.lt_of_not_le h10))
            rw [ho]
            have hk : ((K : Nat) : Int) = ((M.free n : Nat) : Int) := by have := HN.out; have := HF.out; omega
            go_wp2_with fail
            go_ret
            exact ⟨rfl, hB1⟩
end Go.Proofs.Ytpbcbomlhcbfjaa
