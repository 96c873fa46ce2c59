/- Layer 10: the small functions of terrain. -/
import Derived.Test.YtpbcbomlhcbfjaaTail
import Derived.Test.YtpbcbomlhcbfjaaLossMath
import Derived.Test.YtpbcbomlhcbfjaaProg
import Derived.RegionTactic
import Derived.BigRegion
namespace Go.Proofs.Ytpbcbomlhcbfjaa
open Go Go.RowKit

abbrev tv (W H : Int) (GA PA : Option Addr) (gl gc pl pc : Nat) : Value := .agg #[.int .i64 W, .int .i64 H, .slice GA gl gc, .slice PA pl pc]
abbrev cv (x y : Int) : Value := .agg #[.int .i64 x, .int .i64 y]

set_option maxHeartbeats 1000000 in
theorem within_any (v lo hi : Int) (w : World) : Calls Try.prog 49 #[.int .i64 v, .int .i64 lo, .int .i64 hi] w fun e w' => e = .returned (.bool (M.isIn v lo hi)) ∧ w = w' := by
  go_enter Try.func49, Try.ntmps49
  go_wp2_with fail
  all_goals
    go_ret
    exact ⟨ret_bool (by unfold M.isIn; rw [Bool.eq_iff_iff]; simp; omega), rfl⟩

theorem M.allIn_drop {xs : List Int} {lo hi : Int} {k : Nat} (hk : k < xs.length) : M.allIn (xs.drop k) lo hi = (M.isIn xs[k] lo hi && M.allIn (xs.drop (k + 1)) lo hi) := by
  unfold M.allIn
  rw [List.drop_eq_getElem_cons hk, List.all_cons]

set_option maxHeartbeats 1000000 in
theorem allWithin_any (A : Option Addr) (c : Nat) (xs : List Int) (lo hi : Int) (w : World) (B : Nat) (ha : Sl 1 icell w B A xs) (hl : xs.length ≤ 9223372036854775806) :
    Calls Try.prog 59 #[.slice A xs.length c, .int .i64 lo, .int .i64 hi] w fun e w' => e = .returned (.bool (M.allIn xs lo hi)) ∧ w = w' := by
  go_enter Try.func59, Try.ntmps59
  go_wp2_with fail
  go_loopw [8, 11] (fun _ i wr => ∃ k : Nat, k ≤ xs.length ∧ i = .int .i64 k ∧ wr = w ∧ Hid (M.allIn xs lo hi = M.allIn (xs.drop k) lo hi)) (fun _ i _ => xs.length - (intOf i).toNat)
  case atStart => exact ⟨0, Nat.zero_le _, rfl, rfl, Lib.hid rfl⟩
  case round =>
    obtain ⟨k, hk, rfl, rfl, HE⟩ := hrel
    by_cases hlt : k < xs.length
    · obtain ⟨ad, rfl, hab, da⟩ := ha.int_at hlt
      have HS := Lib.hid (HE.out.trans (M.allIn_drop hlt))
      generalize xs[k] = y at *
      go_wp2_with fail
      refine (within_any y lo hi wr).mono ?_
      rintro e w1 ⟨rfl, rfl⟩
      cases hi' : M.isIn y lo hi with
      | true =>
        have HS2 : Hid (M.allIn xs lo hi = M.allIn (xs.drop (k + 1)) lo hi) := Lib.hid (by rw [HS.out, hi', Bool.true_and])
        go_wp2_with fail
        go_roundw
        case rel => exact ⟨k + 1, hlt, by go_num, trivial, HS2⟩
        case measure => simp [intOf]; omega
      | false =>
        have HS2 : Hid (false = M.allIn xs lo hi) := Lib.hid (by rw [HS.out, hi', Bool.false_and])
        go_wp2_with fail
        go_ret
        exact ⟨ret_bool HS2.out, rfl⟩
    · obtain rfl : k = xs.length := by omega
      have HS2 : Hid (true = M.allIn xs lo hi) := Lib.hid (by rw [HE.out, List.drop_length]; rfl)
      go_wp2_with fail
      go_ret
      exact ⟨ret_bool HS2.out, rfl⟩
end Go.Proofs.Ytpbcbomlhcbfjaa
