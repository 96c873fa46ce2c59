/- A bundle of texts: ScRoot. -/
import Derived.Test.YtciolgmljpamlaaGreatDoorProg
import Derived.Test.YtciolgmljpamlaaGreatDoorB25
import Derived.WalkKit
import Derived.WalkLawsBesides
import Derived.WalkSpells
import Derived.LoopTactic
import Derived.Lib.Hide
/- The contracts of score.Root and of the reference's Square: both return the integer square root. -/
section
namespace Go.Proofs.YtciolgmljpamlaaGreatDoor
open Go Go.RowKit
set_option maxRecDepth 100000

set_option maxHeartbeats 1000000 in
theorem root_any (n : Int) (w : World) (h0 : 0 ≤ n) (h1 : n ≤ 9223372036854775807) :
    Calls Tryz.prog 31 #[.int .i64 n] w fun e w' => e = .returned (.tuple #[.int .i64 (M.rt n), .int .i64 0]) ∧ w = w' := by
  go_enter Tryz.func31, Tryz.ntmps31
  go_wp2
  go_loop [4, 5] (fun l h => ∃ a b : Int, 0 ≤ a ∧ a ≤ b ∧ b ≤ 3037000499 ∧ a * a ≤ n ∧ n < (b + 1) * (b + 1) ∧ l = .int .i64 a ∧ h = .int .i64 b) (fun l h => (intOf h - intOf l).toNat)
  case atStart => exact ⟨0, 3037000499, by omega, by omega, by omega, by omega, by have := M.top_sq; omega, rfl, rfl⟩
  case round =>
    obtain ⟨a, b, ha, hab, hb, hsa, hsb, rfl, rfl⟩ := hrel
    by_cases hlt : a < b
    · obtain ⟨m, hm⟩ : ∃ m, (a + b + 1) / 2 = m := ⟨_, rfl⟩
      have hm1 : a + 1 ≤ m := by omega
      have hm2 : m ≤ b := by omega
      have hq := M.scq_bd (m := m) (by omega) (by omega)
      obtain ⟨hq1, hq2⟩ := hq
      have HA := Lib.hid hsa
      have HB := Lib.hid hsb
      clear hsa hsb
      by_cases hc : m * m ≤ n
      · go_wp2
        go_round
        case rel => exact ⟨m, b, by omega, by omega, by omega, hc, HB.out, by rw [hm], rfl⟩
        case measure => simp [intOf]; omega
      · have hc' : n < m * m := by omega
        clear hc
        go_wp2
        go_round
        case rel => exact ⟨a, m - 1, by omega, by omega, by omega, HA.out, by rw [show m - 1 + 1 = m from by omega]; exact hc', rfl, rfl⟩
        case measure => simp [intOf]; omega
    · have e : a = b := by omega
      have hr := M.rt_eq ha hsa (by rw [e]; exact hsb)
      have HR := Lib.hid hr
      clear hr e
      go_wp2
      go_ret2
      refine ⟨?_, rfl⟩; rw [HR.out]; rfl


theorem root_neg (n : Int) (w : World) (h0 : n < 0) :
    Calls Tryz.prog 31 #[.int .i64 n] w fun e w' => e = .returned (.tuple #[.int .i64 0, .int .i64 2]) ∧ w = w' := by
  go_enter Tryz.func31, Tryz.ntmps31
  go_wp2
  go_ret2
  exact ⟨rfl, rfl⟩

end Go.Proofs.YtciolgmljpamlaaGreatDoor
end
