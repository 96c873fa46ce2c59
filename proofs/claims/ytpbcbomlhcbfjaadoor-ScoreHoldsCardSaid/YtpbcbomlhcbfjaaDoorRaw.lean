/- The contracts of score.Raw and of the reference's Raw. -/
import Derived.Test.YtpbcbomlhcbfjaaDoorValid
namespace Go.Proofs.YtpbcbomlhcbfjaaDoor
open Go Go.RowKit

theorem M.wt_of {s l p : Int} (h : M.wtB s l p = true) : 0 ≤ s ∧ s < 512 ∧ 0 ≤ l ∧ l < 512 ∧ 0 ≤ p ∧ p ≤ 4096000000 := of_decide_eq_true h
theorem M.lp_bd {s l p : Int} (h : M.wtB s l p = true) : 0 ≤ l * p ∧ l * p ≤ 2093056000000 := by
  obtain ⟨_, _, h1, h2, h3, h4⟩ := M.wt_of h
  refine ⟨Int.mul_nonneg h1 h3, ?_⟩
  have := Int.mul_le_mul (show l ≤ 511 by omega) h4 h3 (by decide)
  omega

def M.rawV (s l p : Int) : Int := if M.wtB s l p then M.rt (l * p) else 0
def M.wtE (s l p : Int) : Int := if M.wtB s l p then 0 else 2

set_option maxHeartbeats 1000000 in
theorem raw_any (s l p : Int) (w : World) :
    Calls Tryd.prog 12 #[.agg #[.int .i64 s, .int .i64 l, .int .i64 p]] w fun e w' => e = .returned (.tuple #[.int .i64 (M.rawV s l p), .int .i64 (M.wtE s l p)]) ∧ Below w.heap.size w w' := by
  cases hv : M.wtB s l p
  · have h1 : Hid (M.rawV s l p = 0 ∧ M.wtE s l p = 2) := Lib.hid (by simp [M.rawV, M.wtE, hv])
    have HV := Lib.hid hv; clear hv
    go_enter Tryd.func12, Tryd.ntmps12
    go_wp2_with fail
    refine (valid_any _ _ _ _).mono ?_
    rintro e w1 ⟨rfl, hb⟩
    rw [HV.out]
    obtain ⟨hc, hf⟩ := bcell hb
    go_wp2_with fail
    go_ret2
    exact ⟨by rw [h1.out.1, h1.out.2]; rfl, ((Below.refl _ _).alloc (Nat.le_refl _) _).trans (hb.mono (by simp))⟩
  · have h1 : Hid (M.rawV s l p = M.rt (l * p) ∧ M.wtE s l p = 0) := Lib.hid (by simp [M.rawV, M.wtE, hv])
    obtain ⟨b1, b2⟩ := M.lp_bd hv
    have HV := Lib.hid hv; clear hv
    go_enter Tryd.func12, Tryd.ntmps12
    go_wp2_with fail
    refine (valid_any _ _ _ _).mono ?_
    rintro e w1 ⟨rfl, hb⟩
    rw [HV.out]
    obtain ⟨hc, hf⟩ := bcell hb
    go_wp2_with fail
    go_outline
    refine (root_any _ _ (by omega) (by omega)).mono ?_
    rintro e w2 ⟨rfl, rfl⟩
    go_wp2_with fail
    go_ret2
    exact ⟨by rw [h1.out.1, h1.out.2]; rfl, ((Below.refl _ _).alloc (Nat.le_refl _) _).trans (hb.mono (by simp))⟩

end Go.Proofs.YtpbcbomlhcbfjaaDoor
