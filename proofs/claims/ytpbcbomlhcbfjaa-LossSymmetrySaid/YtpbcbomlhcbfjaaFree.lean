/- The contracts of number.Digits10 and loss.Free. -/
import Derived.Test.YtpbcbomlhcbfjaaDecimal
namespace Go.Proofs.Ytpbcbomlhcbfjaa
open Go Go.RowKit

set_option maxHeartbeats 2000000 in
theorem digits10_ok (n base : Nat) (v : Value) (w : World) (hv : IsInt w base n v) (hn : M.bl n ≤ 512) (hn0 : n ≠ 0) :
    Calls Try.prog 25 #[v] w fun e w' => e = .returned (.int .i64 (M.nd n : Nat)) ∧ Below w.heap.size w w' := by
  have hbyl := M.byt_bd hn
  have hv0 := hv
  obtain ⟨A, c, rfl, _, hS⟩ := hv
  have hB0 := (Below.refl w.heap.size w).alloc (Nat.le_refl _) (.cells #[.bool false, .slice A (M.byt n).length c] 48)
  have x0 : (w.alloc (.cells #[.bool false, .slice A (M.byt n).length c] 48)).heap[w.heap.size]? = some (.cells #[.bool false, .slice A (M.byt n).length c] 48 (0, 0)) := heap_alloc_new w _
  have s0 : w.heap.size < (w.alloc (.cells #[.bool false, .slice A (M.byt n).length c] 48)).heap.size := by simp
  have hv1 := hv0.kept ((Below.refl _ _).alloc (Nat.le_refl _) (.cells #[.bool false, .slice A (M.byt n).length c] 48))
  have hS1 := (hS.alloc (Nat.le_refl _) (.cells #[.bool false, .slice A (M.byt n).length c] 48)).more (B' := (w.alloc (.cells #[.bool false, .slice A (M.byt n).length c] 48)).heap.size) (by simp)
  have X0 := Lib.hid x0
  clear x0 hv0 hS
  go_enter Try.func25, Try.ntmps25
  go_wp2_with fail
  generalize w.alloc (.cells #[.bool false, .slice A (M.byt n).length c] 48) = W at *
  refine (numValid_ok n base _ W hv1 hn).mono ?_
  rintro e w1 ⟨rfl, hb1⟩
  have b1 := after_ hB0 hb1
  have y0 := (hb1.block w.heap.size s0).trans X0.out
  have c1 : w1.cell? ⟨w.heap.size, 1, none⟩ = some (.slice A (M.byt n).length c) := by rw [cell_of_row _ _ _ _ _ _ y0]; rfl
  have hS2 := (hS1.below hb1).more hb1.size
  clear y0 hv1 hS1 hb1 hB0
  go_wp2_with fail
  refine (natOf_any A c (M.byt n) w1 hS2 (M.byt_lt n) hbyl).mono ?_
  rintro e w2 ⟨A2, c2, rfl, h1, h2, hS3, hb2⟩
  rw [M.byt_val] at h1 hS3 ⊢
  have b2 := after_ b1 hb2
  clear c1 hS2 hb2 b1
  go_wp2_with fail
  refine (decimal_ok A2 c2 n w2 hS3 hn hn0).mono ?_
  rintro e w3 ⟨A3, c3, rfl, hb3⟩
  have b3 := after_ b2 hb3
  go_wp2_with fail
  go_ret
  exact ⟨rfl, b3⟩

/-- The loss in free space. -/
def M.free (n : Nat) : Nat := if n = 0 then 0 else M.nd (n ^ 20) - 1
theorem M.bl20 {n : Nat} (h : n ≤ 7938) : M.bl (n ^ 20) ≤ 512 := by
  have h1 : n ^ 20 ≤ 7938 ^ 20 := Nat.pow_le_pow_left h 20
  have h2 : M.bl (7938 ^ 20) ≤ 512 := by decide +kernel
  exact Nat.le_trans (M.bl_mono h1) h2
theorem M.nd_pos {n : Nat} (h : n ≠ 0) : 1 ≤ M.nd n := by
  apply Nat.pos_of_ne_zero; intro h0
  have := M.nd_le.1 (Nat.le_of_eq h0)
  simp at this; omega
theorem M.nd_512 {n : Nat} (h : n ≤ 7938) : M.nd (n ^ 20) ≤ 512 := M.nd_bl (M.bl20 h)

set_option maxHeartbeats 2000000 in
theorem free_ok (n : Nat) (w : World) (hn : n ≤ 7938) : Calls Try.prog 9 #[.int .i64 (n : Int)] w fun e w' => e = .returned (.tuple #[.int .i64 (M.free n : Nat), .int .i64 0]) ∧ Below w.heap.size w w' := by
  by_cases h0 : n = 0
  · subst h0
    go_enter Try.func9, Try.ntmps9
    go_wp2_with fail
    go_ret2
    exact ⟨rfl, Below.refl _ _⟩
  · have hz : ((n : Int) == 0) = false := by simp; exact h0
    have hp0 : n ^ 20 ≠ 0 := by
      have : 0 < n ^ 20 := Nat.pow_pos (by omega)
      omega
    have HF : Hid (M.free n = M.nd (n ^ 20) - 1) := Lib.hid (by unfold M.free; rw [if_neg h0])
    have h1 : 1 ≤ n := by omega
    clear h0
    go_enter Try.func9, Try.ntmps9
    go_wp2_with fail
    refine (of_ok n w (by omega)).mono ?_
    rintro e w1 ⟨v1, rfl, hv1, hb1⟩
    go_wp2_with fail
    refine (power_ok n 20 _ v1 w1 hv1 h1 (by omega) (by omega) (M.bl20 hn)).mono ?_
    rintro e w2 ⟨v2, rfl, hv2, hb2⟩
    have b2 := after_ hb1 hb2
    have hnd1 := M.nd_pos hp0
    have hnd2 := M.nd_512 hn
    have HB := Lib.hid (M.bl20 hn)
    obtain ⟨p, hp⟩ : ∃ p, n ^ 20 = p := ⟨_, rfl⟩
    rw [hp] at HF HB hnd1 hnd2 hp0 hv2
    clear hp
    have hv2' := hv2
    obtain ⟨A2, c2, rfl, _, _⟩ := hv2'
    have hv3 := hv2.kept ((Below.refl _ _).alloc (Nat.le_refl _) (.cells #[.bool false, .slice A2 (M.byt p).length c2] 48))
    have b2' := b2.alloc b2.size (.cells #[.bool false, .slice A2 (M.byt p).length c2] 48)
    go_wp2_with fail
    refine (digits10_ok p _ _ _ hv3 HB.out hp0).mono ?_
    rintro e w3 ⟨rfl, hb3⟩
    have b3 := after_ b2' hb3
    go_wp2_with fail
    go_ret2
    exact ⟨ret_int2 (by rw [HF.out]; omega) rfl, b3⟩
theorem free_no (n : Int) (w : World) (hn : n < 0 ∨ 7938 < n) : Calls Try.prog 9 #[.int .i64 n] w fun e w' => e = .returned (.tuple #[.int .i64 0, .int .i64 2]) ∧ w = w' := by
  go_enter Try.func9, Try.ntmps9
  go_wp2_with fail
  all_goals
    go_ret2
    exact ⟨rfl, rfl⟩
end Go.Proofs.Ytpbcbomlhcbfjaa
