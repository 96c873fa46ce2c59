/- The contract of the reference's Trim. -/
import Derived.Test.YtpbcbomlhcbfjaaTrim
import Derived.Test.YtpbcbomlhcbfjaaNatB
namespace Go.Proofs.Ytpbcbomlhcbfjaa
open Go Go.RowKit

def TrimPostB (w : World) (A : Option Addr) (c : Nat) (l : List Nat) (e : Ending) (w' : World) : Prop := e = .returned (.slice A (M.trm l).length c) ∧ M.trm l = l.take (M.trm l).length ∧ w = w'

set_option maxHeartbeats 1000000 in
theorem refTrim_any (A : Option Addr) (c B : Nat) (l : List Nat) (w : World) (ha : Sl 1 bc w B A l) (hc : l.length ≤ c) (hm : c ≤ 9223372036854775807) :
    Calls Try.prog 45 #[.slice A l.length c] w (TrimPostB w A c l) := by
  go_enter Try.func45, Try.ntmps45
  go_wp2_with fail
  go_loop [0] (fun x => ∃ k : Nat, k ≤ l.length ∧ x = .slice A k c ∧ Hid (M.trm (l.take k) = M.trm l)) (fun x => match x with | .slice _ k _ => k | _ => 0)
  case atStart => exact ⟨l.length, Nat.le_refl _, rfl, Lib.hid (by rw [List.take_length])⟩
  case round =>
    obtain ⟨k, hk, rfl, HT⟩ := hrel
    cases k with
    | zero =>
      have HE : Hid (M.trm l = []) := Lib.hid (by rw [← HT.out]; rfl)
      go_wp2_with fail
      go_ret
      exact ⟨by rw [HE.out]; rfl, by rw [HE.out]; rfl, rfl⟩
    | succ k =>
      obtain ⟨ad, rfl, _, d⟩ := ha.one_at (k := k) (by omega)
      simp only [bc] at d
      by_cases h0 : l[k] = 0
      · have HN := Lib.hid (M.trm_at (by omega) HT.out h0)
        rw [h0] at d
        clear h0
        go_wp2_with fail
        go_round
        case rel => exact ⟨k, by omega, rfl, HN⟩
        case measure => simp
      · have HE := Lib.hid (M.trm_stop (by omega) HT.out h0)
        have hb : (((l[k] : Nat) : Int) == 0) = false := by simp; exact h0
        clear h0
        go_wp2_with fail
        go_ret
        have hlen : (M.trm l).length = k + 1 := by rw [HE.out]; simp; omega
        exact ⟨by rw [hlen]; rfl, by rw [hlen]; exact HE.out, rfl⟩
end Go.Proofs.Ytpbcbomlhcbfjaa
