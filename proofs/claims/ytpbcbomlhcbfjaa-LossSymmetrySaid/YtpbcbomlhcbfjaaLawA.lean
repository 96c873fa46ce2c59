/- The walks of the laws LossFree and LossSquares: they return true. -/
import Derived.Test.YtpbcbomlhcbfjaaKnown
import Derived.Test.YtpbcbomlhcbfjaaRefFree
namespace Go.Proofs.Ytpbcbomlhcbfjaa
open Go Go.RowKit

/-- A law that returned true and kept everything that was there. -/
def LawTrue (w : World) (e : Ending) (w' : World) : Prop := e = .returned (.bool true) ∧ Below w.heap.size w w'

set_option maxHeartbeats 4000000 in
theorem lossFree_walk (n : Int) (w : World) : Calls Try.prog 3 #[.int .i64 n] w (LawTrue w) := by
  by_cases h : 0 ≤ n ∧ n ≤ 7938
  · obtain ⟨N, rfl⟩ := Int.eq_ofNat_of_zero_le h.1
    have hN : N ≤ 7938 := by omega
    have q1 : decide ((N : Int) < 0) = false := by simp
    have q2 : decide (7938 < (N : Int)) = false := by simp; omega
    clear h
    go_enter Try.func3, Try.ntmps3
    go_wp2_with fail
    refine (free_ok N w hN).mono ?_
    rintro e w1 ⟨rfl, hb1⟩
    go_wp2_with fail
    refine (refFree_ok N w1 hN).mono ?_
    rintro e w2 ⟨rfl, hb2⟩
    have B2 := after_ hb1 hb2
    generalize M.free N = F
    have q3 : ((F : Int) == (F : Int)) = true := by simp
    go_wp2_with fail
    refine (known_any w2).mono ?_
    rintro e w3 ⟨rfl, hb3⟩
    go_wp2_with fail
    go_ret
    exact ⟨rfl, after_ B2 hb3⟩
  · have h' : n < 0 ∨ 7938 < n := by omega
    have HF := Lib.hid h'
    clear h
    by_cases q1 : decide (n < 0) = true
    · clear h'
      go_enter Try.func3, Try.ntmps3
      go_wp2_with fail
      refine (free_no n w HF.out).mono ?_
      rintro e w1 ⟨rfl, rfl⟩
      go_wp2_with fail
      refine (known_any w).mono ?_
      rintro e w3 ⟨rfl, hb3⟩
      go_wp2_with fail
      go_ret
      exact ⟨rfl, hb3⟩
    · have q2 : decide (n < 0) = false := by simpa using q1
      have q3 : decide (7938 < n) = true := by simp at q2 ⊢; omega
      clear h' q1
      go_enter Try.func3, Try.ntmps3
      go_wp2_with fail
      refine (free_no n w HF.out).mono ?_
      rintro e w1 ⟨rfl, rfl⟩
      go_wp2_with fail
      refine (known_any w).mono ?_
      rintro e w3 ⟨rfl, hb3⟩
      go_wp2_with fail
      go_ret
      exact ⟨rfl, hb3⟩
end Go.Proofs.Ytpbcbomlhcbfjaa
