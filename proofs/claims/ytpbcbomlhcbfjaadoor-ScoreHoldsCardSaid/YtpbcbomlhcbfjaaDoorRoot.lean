/- The contracts of score.Root and of the reference's Square: both return the integer square root. -/
import Derived.Test.YtpbcbomlhcbfjaaDoorProg
import Derived.Test.YtpbcbomlhcbfjaaDoorMath
import Derived.WalkKit
import Derived.WalkLawsBesides
import Derived.WalkSpells
import Derived.LoopTactic
import Derived.Lib.Hide
namespace Go.Proofs.YtpbcbomlhcbfjaaDoor
open Go Go.RowKit

set_option maxHeartbeats 1000000 in
theorem root_any (n : Int) (w : World) (h0 : 0 ≤ n) (h1 : n ≤ 9223372036854775807) :
    Calls Tryd.prog 9 #[.int .i64 n] w fun e w' => e = .returned (.tuple #[.int .i64 (M.rt n), .int .i64 0]) ∧ w = w' := by
  go_enter Tryd.func9, Tryd.ntmps9
  go_wp2
  go_loop [4, 5] (fun l h => ∃ a b : Int, 0 ≤ a ∧ a ≤ b ∧ b ≤ 3037000499 ∧ a * a ≤ n ∧ n < (b + 1) * (b + 1) ∧ l = .int .i64 a ∧ h = .int .i64 b) (fun l h => (intOf h - intOf l).toNat)
  case atStart => exact ⟨0, 3037000499, by omega, by omega, by omega, by omega, by have := M.top_sq; omega, rfl, rfl⟩
  case round =>
    obtain ⟨a, b, ha, hab, hb, hsa, hsb, rfl, rfl⟩ := hrel
    by_cases hlt : a < b
    · obtain ⟨m, hm⟩ : ∃ m, (a + b + 1) / 2 = m := ⟨_, rfl⟩
      have hm1 : a + 1 ≤ m := by omega
      have hm2 : m ≤ b := by omega
      have hq := M.sq_bd (m := m) (by omega) (by omega)
      obtain ⟨hq1, hq2⟩ := hq
      have HA := Lib.hid hsa
      have HB := Lib.hid hsb
      clear hsa hsb
      by_cases hc : m * m ≤ n
      · go_wp2
        go_round
        case rel => exact ⟨m, b, by omega, by omega, by omega, hc, HB.out, by rw [hm], rfl⟩
        case measure => simp [intOf]; omega
      · have hc' : n < m * m := by omega
        clear hc
        go_wp2
        go_round
        case rel => exact ⟨a, m - 1, by omega, by omega, by omega, HA.out, by rw [show m - 1 + 1 = m from by omega]; exact hc', rfl, rfl⟩
        case measure => simp [intOf]; omega
    · have e : a = b := by omega
      have hr := M.rt_eq ha hsa (by rw [e]; exact hsb)
      have HR := Lib.hid hr
      clear hr e
      go_wp2
      go_ret2
      refine ⟨?_, rfl⟩; rw [HR.out]; rfl


theorem root_neg (n : Int) (w : World) (h0 : n < 0) :
    Calls Tryd.prog 9 #[.int .i64 n] w fun e w' => e = .returned (.tuple #[.int .i64 0, .int .i64 2]) ∧ w = w' := by
  go_enter Tryd.func9, Tryd.ntmps9
  go_wp2
  go_ret2
  exact ⟨rfl, rfl⟩

set_option maxHeartbeats 1000000 in
theorem square_any (n : Int) (w : World) (h0 : 0 ≤ n) (h1 : n ≤ 9223372036854775807) :
    Calls Tryd.prog 11 #[.int .i64 n] w fun e w' => e = .returned (.int .i64 (M.rt n)) ∧ w = w' := by
  go_enter Tryd.func11, Tryd.ntmps11
  go_wp2
  go_loop [3, 4] (fun r b => ∃ a c : Int, ∃ k : Nat, 0 ≤ a ∧ a ≤ 3037000499 ∧ k ≤ 32 ∧ c = 2 ^ k ∧ a * a ≤ n ∧ n < (a + c) * (a + c) ∧ r = .int .i64 a ∧ b = .int .i64 (c / 2)) (fun _ b => (intOf b).toNat)
  case atStart => exact ⟨0, 4294967296, 32, by omega, by omega, by omega, by decide, by omega, by omega, rfl, rfl⟩
  case round =>
    obtain ⟨a, c, k, ha, hab, hk, hck, hsa, hsb, rfl, rfl⟩ := hrel
    obtain ⟨d, hd⟩ : ∃ d, c / 2 = d := ⟨_, rfl⟩
    rw [hd]
    cases k with
    | zero =>
      have hd0 : d = 0 := by rw [hck] at hd; omega
      have hc1 : c = 1 := by rw [hck]; rfl
      subst hd0; subst hc1
      have hr := M.rt_eq ha hsa hsb
      have HR := Lib.hid hr
      clear hr hck hsa hsb hd
      go_wp2
      go_ret
      refine ⟨?_, rfl⟩; rw [HR.out]; rfl
    | succ k =>
      have hcd : c = 2 * d := by rw [hck, Int.pow_succ] at hd ⊢; omega
      have hdk : d = 2 ^ k := by rw [Int.pow_succ] at hck; omega
      have hd1 : 1 ≤ d := by
        rw [hdk]; have : 0 < (2 : Int) ^ k := Int.pow_pos (by decide); omega
      have hdm : d ≤ 2147483648 := by
        rw [hdk]
        have : (2 : Nat) ^ k ≤ 2 ^ 31 := Nat.pow_le_pow_right (by decide) (by omega)
        have h2 : ((2 ^ k : Nat) : Int) ≤ ((2 ^ 31 : Nat) : Int) := by exact_mod_cast this
        simpa using h2
      subst hcd
      have HK := Lib.hid hdk
      have HA := Lib.hid hsa
      have HB := Lib.hid hsb
      clear hsa hsb hdk hck hd
      by_cases hle : a + d ≤ 3037000499
      · have hq := M.sq_bd (m := a + d) (by omega) (by omega)
        obtain ⟨hq1, hq2⟩ := hq
        by_cases hc : (a + d) * (a + d) ≤ n
        · go_wp2
          go_round
          case rel => exact ⟨a + d, d, k, by omega, by omega, by omega, HK.out, hc, by have := HB.out; rw [show a + d + d = a + 2 * d from by omega]; exact this, rfl, rfl⟩
          case measure => simp [intOf]; omega
        · have hc' : n < (a + d) * (a + d) := by omega
          clear hc
          go_wp2
          go_round
          case rel => exact ⟨a, d, k, by omega, by omega, by omega, HK.out, HA.out, hc', rfl, rfl⟩
          case measure => simp [intOf]; omega
      · have hle' : 3037000499 < a + d := by omega
        have hc' : n < (a + d) * (a + d) := by
          have := M.sq_mono (a := 3037000499 + 1) (b := a + d) (by omega) (by omega)
          have := M.top_sq
          omega
        have HC := Lib.hid hc'
        clear hc' hle
        go_wp2
        go_round
        case rel => exact ⟨a, d, k, by omega, by omega, by omega, HK.out, HA.out, HC.out, rfl, rfl⟩
        case measure => simp [intOf]; omega

end Go.Proofs.YtpbcbomlhcbfjaaDoor
