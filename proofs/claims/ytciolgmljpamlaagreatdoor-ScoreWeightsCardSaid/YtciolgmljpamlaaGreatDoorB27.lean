/- A bundle of texts: ScValid, ScRaw. -/
import Derived.Test.YtciolgmljpamlaaGreatDoorB26
import Derived.Test.YtciolgmljpamlaaGreatDoorB01
import Derived.Outline
import Derived.Below
import Derived.Deep.QuietTactic
import Derived.BigQuiet
import Derived.BigGuardPart
/- The contracts of score.isStation, score.valid, score.Raw and of the reference's Valid and Raw. -/
section
namespace Go.Proofs.YtciolgmljpamlaaGreatDoor
open Go Go.RowKit
set_option maxRecDepth 100000

def M.stB (n : Int) : Bool := decide (0 ≤ n ∧ n < 512)
def M.wtB (s l p : Int) : Bool := decide (0 ≤ s ∧ s < 512 ∧ 0 ≤ l ∧ l < 512 ∧ 0 ≤ p ∧ p ≤ 4096000000)

theorem isStation_any (n : Int) (w : World) :
    Calls Tryz.prog 38 #[.int .i64 n] w fun e w' => e = .returned (.bool (M.stB n)) ∧ w = w' := by
  by_cases h0 : 0 ≤ n
  · by_cases h1 : n < 512
    · have hh := Lib.hid (show M.stB n = true by simp [M.stB, h0, h1])
      go_enter Tryz.func38, Tryz.ntmps38
      go_wp2
      go_ret
      exact ⟨by rw [hh.out]; rfl, rfl⟩
    · have hh := Lib.hid (show M.stB n = false by simp [M.stB, h1])
      go_enter Tryz.func38, Tryz.ntmps38
      go_wp2
      go_ret
      exact ⟨by rw [hh.out]; rfl, rfl⟩
  · have hh := Lib.hid (show M.stB n = false by simp [M.stB, h0])
    go_enter Tryz.func38, Tryz.ntmps38
    go_wp2
    go_ret
    exact ⟨by rw [hh.out]; rfl, rfl⟩


set_option maxHeartbeats 1000000 in
theorem valid_any (s l p : Int) (w : World) :
    Calls Tryz.prog 85 #[.agg #[.int .i64 s, .int .i64 l, .int .i64 p]] w fun e w' => e = .returned (.bool (M.wtB s l p)) ∧ Below w.heap.size w w' := by
  go_enter Tryz.func85, Tryz.ntmps85
  go_wp2
  all_goals
    go_ret
    exact ⟨ret_bool (by unfold M.wtB; rw [Bool.eq_iff_iff]; simp; omega), (Below.refl _ _).alloc (Nat.le_refl _) _⟩

theorem valid_eq {s l p : Int} {b : Bool} (h : M.wtB s l p = b) (w : World) :
    Calls Tryz.prog 85 #[.agg #[.int .i64 s, .int .i64 l, .int .i64 p]] w fun e w' => e = .returned (.bool b) ∧ Below w.heap.size w w' := h ▸ valid_any s l p w
end Go.Proofs.YtciolgmljpamlaaGreatDoor
end

/- The contracts of score.Raw and of the reference's Raw. -/
section
namespace Go.Proofs.YtciolgmljpamlaaGreatDoor
open Go Go.RowKit
set_option maxRecDepth 100000

theorem M.wt_of {s l p : Int} (h : M.wtB s l p = true) : 0 ≤ s ∧ s < 512 ∧ 0 ≤ l ∧ l < 512 ∧ 0 ≤ p ∧ p ≤ 4096000000 := of_decide_eq_true h
theorem M.lp_bd {s l p : Int} (h : M.wtB s l p = true) : 0 ≤ l * p ∧ l * p ≤ 2093056000000 := by
  obtain ⟨_, _, h1, h2, h3, h4⟩ := M.wt_of h
  refine ⟨Int.mul_nonneg h1 h3, ?_⟩
  have := Int.mul_le_mul (show l ≤ 511 by omega) h4 h3 (by decide)
  omega

def M.rawV (s l p : Int) : Int := if M.wtB s l p then M.rt (l * p) else 0
def M.wtE (s l p : Int) : Int := if M.wtB s l p then 0 else 2

set_option maxHeartbeats 1000000 in
theorem raw_any (s l p : Int) (w : World) :
    Calls Tryz.prog 32 #[.agg #[.int .i64 s, .int .i64 l, .int .i64 p]] w fun e w' => e = .returned (.tuple #[.int .i64 (M.rawV s l p), .int .i64 (M.wtE s l p)]) ∧ Below w.heap.size w w' := by
  cases hv : M.wtB s l p
  · have h1 : Hid (M.rawV s l p = 0 ∧ M.wtE s l p = 2) := Lib.hid (by simp [M.rawV, M.wtE, hv])
    have HV := Lib.hid hv; clear hv
    go_enter Tryz.func32, Tryz.ntmps32
    go_wp2_with fail
    refine (valid_any _ _ _ _).mono ?_
    rintro e w1 ⟨rfl, hb⟩
    rw [HV.out]
    obtain ⟨hc, hf⟩ := bcell hb
    go_wp2_with fail
    go_ret2
    exact ⟨by rw [h1.out.1, h1.out.2]; rfl, ((Below.refl _ _).alloc (Nat.le_refl _) _).trans (hb.mono (by simp))⟩
  · have h1 : Hid (M.rawV s l p = M.rt (l * p) ∧ M.wtE s l p = 0) := Lib.hid (by simp [M.rawV, M.wtE, hv])
    obtain ⟨b1, b2⟩ := M.lp_bd hv
    have HV := Lib.hid hv; clear hv
    go_enter Tryz.func32, Tryz.ntmps32
    go_wp2_with fail
    refine (valid_any _ _ _ _).mono ?_
    rintro e w1 ⟨rfl, hb⟩
    rw [HV.out]
    obtain ⟨hc, hf⟩ := bcell hb
    go_wp2_with fail
    go_outline
    refine (root_any _ _ (by omega) (by omega)).mono ?_
    rintro e w2 ⟨rfl, rfl⟩
    go_wp2_with fail
    go_ret2
    exact ⟨by rw [h1.out.1, h1.out.2]; rfl, ((Below.refl _ _).alloc (Nat.le_refl _) _).trans (hb.mono (by simp))⟩

end Go.Proofs.YtciolgmljpamlaaGreatDoor
end
