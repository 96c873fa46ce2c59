/- The contracts of score.isStation, score.valid, score.Raw and of the reference's Valid and Raw. -/
import Derived.Test.YtpbcbomlhcbfjaaDoorRoot
import Derived.Test.YtpbcbomlhcbfjaaDoorMem
import Derived.Outline
import Derived.Below
import Derived.Deep.QuietTactic
import Derived.BigQuiet
import Derived.BigGuardPart
namespace Go.Proofs.YtpbcbomlhcbfjaaDoor
open Go Go.RowKit

def M.stB (n : Int) : Bool := decide (0 ≤ n ∧ n < 512)
def M.wtB (s l p : Int) : Bool := decide (0 ≤ s ∧ s < 512 ∧ 0 ≤ l ∧ l < 512 ∧ 0 ≤ p ∧ p ≤ 4096000000)

theorem isStation_any (n : Int) (w : World) :
    Calls Tryd.prog 31 #[.int .i64 n] w fun e w' => e = .returned (.bool (M.stB n)) ∧ w = w' := by
  by_cases h0 : 0 ≤ n
  · by_cases h1 : n < 512
    · have hh := Lib.hid (show M.stB n = true by simp [M.stB, h0, h1])
      go_enter Tryd.func31, Tryd.ntmps31
      go_wp2
      go_ret
      exact ⟨by rw [hh.out]; rfl, rfl⟩
    · have hh := Lib.hid (show M.stB n = false by simp [M.stB, h1])
      go_enter Tryd.func31, Tryd.ntmps31
      go_wp2
      go_ret
      exact ⟨by rw [hh.out]; rfl, rfl⟩
  · have hh := Lib.hid (show M.stB n = false by simp [M.stB, h0])
    go_enter Tryd.func31, Tryd.ntmps31
    go_wp2
    go_ret
    exact ⟨by rw [hh.out]; rfl, rfl⟩


set_option maxHeartbeats 1000000 in
theorem valid_any (s l p : Int) (w : World) :
    Calls Tryd.prog 24 #[.agg #[.int .i64 s, .int .i64 l, .int .i64 p]] w fun e w' => e = .returned (.bool (M.wtB s l p)) ∧ Below w.heap.size w w' := by
  go_enter Tryd.func24, Tryd.ntmps24
  go_wp2
  all_goals
    go_ret
    exact ⟨ret_bool (by unfold M.wtB; rw [Bool.eq_iff_iff]; simp; omega), (Below.refl _ _).alloc (Nat.le_refl _) _⟩

set_option maxHeartbeats 1000000 in
theorem refValid_any (s l p : Int) (w : World) :
    Calls Tryd.prog 25 #[.agg #[.int .i64 s, .int .i64 l, .int .i64 p]] w fun e w' => e = .returned (.bool (M.wtB s l p)) ∧ Below w.heap.size w w' := by
  go_enter Tryd.func25, Tryd.ntmps25
  go_wp2
  all_goals
    go_ret
    exact ⟨ret_bool (by unfold M.wtB; rw [Bool.eq_iff_iff]; simp; omega), (Below.refl _ _).alloc (Nat.le_refl _) _⟩

theorem refValid_eq {s l p : Int} {b : Bool} (h : M.wtB s l p = b) (w : World) :
    Calls Tryd.prog 25 #[.agg #[.int .i64 s, .int .i64 l, .int .i64 p]] w fun e w' => e = .returned (.bool b) ∧ Below w.heap.size w w' := h ▸ refValid_any s l p w
theorem valid_eq {s l p : Int} {b : Bool} (h : M.wtB s l p = b) (w : World) :
    Calls Tryd.prog 24 #[.agg #[.int .i64 s, .int .i64 l, .int .i64 p]] w fun e w' => e = .returned (.bool b) ∧ Below w.heap.size w w' := h ▸ valid_any s l p w
end Go.Proofs.YtpbcbomlhcbfjaaDoor
