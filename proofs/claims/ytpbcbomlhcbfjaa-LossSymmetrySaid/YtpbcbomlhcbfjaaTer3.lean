/- Layer 10: inside, place, divide, distance. -/
import Derived.Test.YtpbcbomlhcbfjaaTer2
namespace Go.Proofs.Ytpbcbomlhcbfjaa
open Go Go.RowKit

set_option maxHeartbeats 2000000 in
theorem inside_any (W H : Int) (GA PA : Option Addr) (gl gc pl pc : Nat) (x y : Int) (w : World) (hW : 1 ≤ W ∧ W ≤ 64) (hH : 1 ≤ H ∧ H ≤ 64) :
    Calls Try.prog 47 #[tv W H GA PA gl gc pl pc, cv x y] w fun e w' => e = .returned (.bool (M.inside W H x y)) ∧ Below w.heap.size w w' := by
  have hB0 := (Below.refl w.heap.size w).alloc (Nat.le_refl _) (.cells #[.int .i64 W, .int .i64 H, .slice GA gl gc, .slice PA pl pc] 35)
  have hB1 := hB0.alloc hB0.size (.cells #[.int .i64 x, .int .i64 y] 29)
  obtain ⟨r, hr⟩ : ∃ r, M.inside W H x y = r := ⟨_, rfl⟩
  have HR := Lib.hid hr
  rw [hr]
  clear hr
  go_enter Try.func47, Try.ntmps47
  go_wp2_with fail
  refine (within_any x 0 (W - 1) _).mono ?_
  rintro e w1 ⟨rfl, rfl⟩
  cases h1 : M.isIn x 0 (W - 1) with
  | false =>
    have HR2 : Hid (false = r) := Lib.hid (by rw [← HR.out]; unfold M.inside; rw [h1]; rfl)
    go_wp2_with fail
    go_ret
    exact ⟨ret_bool HR2.out, hB1⟩
  | true =>
    go_wp2_with fail
    refine (within_any y 0 (H - 1) _).mono ?_
    rintro e w1 ⟨rfl, rfl⟩
    have HR2 : Hid (M.isIn y 0 (H - 1) = r) := Lib.hid (by rw [← HR.out]; unfold M.inside; rw [h1]; rfl)
    generalize M.isIn y 0 (H - 1) = q at *
    go_wp2_with fail
    go_ret
    exact ⟨ret_bool HR2.out, hB1⟩

set_option maxHeartbeats 2000000 in
theorem place_any (W H : Int) (GA PA : Option Addr) (gl gc pl pc : Nat) (x y : Int) (w : World) (hW : 1 ≤ W ∧ W ≤ 64) (hH : 1 ≤ H ∧ H ≤ 64) (hx : 0 ≤ x ∧ x < W) (hy : 0 ≤ y ∧ y < H) :
    Calls Try.prog 48 #[tv W H GA PA gl gc pl pc, cv x y] w fun e w' => e = .returned (.int .i64 (y * W + x)) ∧ Below w.heap.size w w' := by
  have hB0 := (Below.refl w.heap.size w).alloc (Nat.le_refl _) (.cells #[.int .i64 W, .int .i64 H, .slice GA gl gc, .slice PA pl pc] 35)
  have hB1 := hB0.alloc hB0.size (.cells #[.int .i64 x, .int .i64 y] 29)
  obtain ⟨b1, b2, b3⟩ := M.place_bd hW hH hx hy
  clear b3
  generalize hp : y * W = p at *
  go_enter Try.func48, Try.ntmps48
  go_wp2_with fail
  go_ret
  exact ⟨rfl, hB1⟩

theorem M.floor_neg {a b : Int} (hb : 0 < b) (h : a.tmod b < 0) : a.tdiv b - 1 = a / b := by
  have h1 := Int.mul_tdiv_add_tmod a b
  have h2 := Int.lt_tmod_of_pos a hb
  refine ((Int.ediv_emod_unique (a := a) (r := a.tmod b + b) (q := a.tdiv b - 1) hb).2 ⟨?_, by omega, by omega⟩).1.symm
  rw [Int.mul_sub, Int.mul_one]
  omega
theorem M.floor_pos {a b : Int} (hb : 0 < b) (h : 0 ≤ a.tmod b) : a.tdiv b = a / b := by
  have h1 := Int.mul_tdiv_add_tmod a b
  have h2 := Int.tmod_lt_of_pos a hb
  exact ((Int.ediv_emod_unique (a := a) (r := a.tmod b) (q := a.tdiv b) hb).2 ⟨by omega, by omega, by omega⟩).1.symm
theorem M.floor_bd {a b c : Int} (ha : -c ≤ a ∧ a ≤ c) (hb : 0 < b) : -c ≤ a / b ∧ a / b ≤ c := by
  constructor
  · apply Int.le_ediv_of_mul_le hb
    have : -c * b ≤ -c * 1 := Int.mul_le_mul_of_nonpos_left (by omega) (by omega)
    omega
  · apply Int.ediv_le_of_le_mul hb
    have : c * 1 ≤ c * b := Int.mul_le_mul_of_nonneg_left (by omega) (by omega)
    omega

set_option maxHeartbeats 1000000 in
theorem divide_any (a b : Int) (w : World) (ha : -1000000 ≤ a ∧ a ≤ 1000000) (hb : 1 ≤ b ∧ b ≤ 1000000) :
    Calls Try.prog 51 #[.int .i64 a, .int .i64 b] w fun e w' => e = .returned (.int .i64 (a / b)) ∧ w = w' := by
  have hbd := M.floor_bd ha (show 0 < b by omega)
  by_cases h : a.tmod b < 0
  · have h1 := M.floor_neg (show 0 < b by omega) h
    obtain ⟨q, hq⟩ : ∃ q, a.tdiv b = q := ⟨_, rfl⟩
    obtain ⟨r, hr⟩ : ∃ r, a.tmod b = r := ⟨_, rfl⟩
    rw [hq] at h1
    rw [hr] at h
    rw [← h1] at hbd ⊢
    clear h1
    go_enter Try.func51, Try.ntmps51
    go_wp2_with fail
    go_ret
    exact ⟨rfl, rfl⟩
  · have h1 := M.floor_pos (show 0 < b by omega) (show 0 ≤ a.tmod b by omega)
    obtain ⟨q, hq⟩ : ∃ q, a.tdiv b = q := ⟨_, rfl⟩
    obtain ⟨r, hr⟩ : ∃ r, a.tmod b = r := ⟨_, rfl⟩
    rw [hq] at h1
    rw [hr] at h
    rw [← h1] at hbd ⊢
    clear h1
    go_enter Try.func51, Try.ntmps51
    go_wp2_with fail
    go_ret
    exact ⟨rfl, rfl⟩

set_option maxHeartbeats 1000000 in
theorem distance_any (a b : Int) (w : World) (ha : 0 ≤ a ∧ a ≤ 1000000) (hb : 0 ≤ b ∧ b ≤ 1000000) :
    Calls Try.prog 50 #[.int .i64 a, .int .i64 b] w fun e w' => e = .returned (.int .i64 (max (a - b) (b - a))) ∧ w = w' := by
  go_enter Try.func50, Try.ntmps50
  go_wp2_with fail
  all_goals
    go_ret
    exact ⟨ret_int (by omega), rfl⟩
end Go.Proofs.Ytpbcbomlhcbfjaa
