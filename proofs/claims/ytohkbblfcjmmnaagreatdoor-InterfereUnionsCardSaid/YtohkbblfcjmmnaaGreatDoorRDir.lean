/- The reference's Direction and Loss of layer 12. -/
import Derived.Test.YtohkbblfcjmmnaaGreatDoorAntA
namespace Go.Proofs.YtohkbblfcjmmnaaGreatDoor
open Go Go.RowKit
set_option maxRecDepth 100000

set_option maxHeartbeats 2000000 in
theorem rDir0 (dx dy : Int) (w : World) (hx : -100 ≤ dx ∧ dx ≤ 100) (hy : -100 ≤ dy ∧ dy ≤ 100) (sx : dx < 0) (sy : dy < 0) : Calls Tryz.prog 65 #[.int .i64 dx, .int .i64 dy] w fun e w' => e = .returned (.int .i64 (M.dir dx dy)) ∧ w = w' := by
  have q0 : decide (dx ≤ 0) = true := by simp; omega
  have q1 : decide (0 < dy) = false := by simp; omega
  have q2 : decide (dx < 0) = true := by simp; omega
  have q3 : decide (dy ≤ 0) = true := by simp; omega
  have q4 : decide (0 ≤ dx) = false := by simp; omega
  have q5 : decide (dy < 0) = true := by simp; omega
  by_cases b0 : 2 * (-dy) < -dx
  · have HF : Hid (((8 : Int)) = M.dir dx dy) := Lib.hid (by unfold M.dir M.steps; clear q0 q1 q2 q3 q4 q5; repeat' split; all_goals omega)
    go_enter Tryz.func65, Tryz.ntmps65
    go_wp2_with fail
    go_ret
    exact ⟨ret_int HF.out, rfl⟩
  by_cases b1 : -dy < -dx
  · have HF : Hid (((9 : Int)) = M.dir dx dy) := Lib.hid (by unfold M.dir M.steps; clear q0 q1 q2 q3 q4 q5; repeat' split; all_goals omega)
    go_enter Tryz.func65, Tryz.ntmps65
    go_wp2_with fail
    go_ret
    exact ⟨ret_int HF.out, rfl⟩
  by_cases b2 : -dy < 2 * (-dx)
  · have HF : Hid (((10 : Int)) = M.dir dx dy) := Lib.hid (by unfold M.dir M.steps; clear q0 q1 q2 q3 q4 q5; repeat' split; all_goals omega)
    go_enter Tryz.func65, Tryz.ntmps65
    go_wp2_with fail
    go_ret
    exact ⟨ret_int HF.out, rfl⟩
  have HF : Hid (((11 : Int)) = M.dir dx dy) := Lib.hid (by unfold M.dir M.steps; clear q0 q1 q2 q3 q4 q5; repeat' split; all_goals omega)
  go_enter Tryz.func65, Tryz.ntmps65
  go_wp2_with fail
  go_ret
  exact ⟨ret_int HF.out, rfl⟩

set_option maxHeartbeats 2000000 in
theorem rDir1 (dx dy : Int) (w : World) (hx : -100 ≤ dx ∧ dx ≤ 100) (hy : -100 ≤ dy ∧ dy ≤ 100) (sx : dx < 0) (sy : 0 ≤ dy ∧ dy ≤ 0) : Calls Tryz.prog 65 #[.int .i64 dx, .int .i64 dy] w fun e w' => e = .returned (.int .i64 (M.dir dx dy)) ∧ w = w' := by
  have q0 : decide (dx ≤ 0) = true := by simp; omega
  have q1 : decide (0 < dy) = false := by simp; omega
  have q2 : decide (dx < 0) = true := by simp; omega
  have q3 : decide (dy ≤ 0) = true := by simp; omega
  have q4 : decide (0 ≤ dx) = false := by simp; omega
  have q5 : decide (dy < 0) = false := by simp; omega
  have b0 : 2 * (-dy) < -dx := by omega
  have HF : Hid (((8 : Int)) = M.dir dx dy) := Lib.hid (by unfold M.dir M.steps; clear q0 q1 q2 q3 q4 q5; repeat' split; all_goals omega)
  go_enter Tryz.func65, Tryz.ntmps65
  go_wp2_with fail
  go_ret
  exact ⟨ret_int HF.out, rfl⟩

set_option maxHeartbeats 2000000 in
theorem rDir2 (dx dy : Int) (w : World) (hx : -100 ≤ dx ∧ dx ≤ 100) (hy : -100 ≤ dy ∧ dy ≤ 100) (sx : dx < 0) (sy : 0 < dy) : Calls Tryz.prog 65 #[.int .i64 dx, .int .i64 dy] w fun e w' => e = .returned (.int .i64 (M.dir dx dy)) ∧ w = w' := by
  have q0 : decide (dx ≤ 0) = true := by simp; omega
  have q1 : decide (0 < dy) = true := by simp; omega
  have q2 : decide (dx < 0) = true := by simp; omega
  have q3 : decide (dy ≤ 0) = false := by simp; omega
  have q4 : decide (0 ≤ dx) = false := by simp; omega
  have q5 : decide (dy < 0) = false := by simp; omega
  by_cases b0 : 2 * (-dx) < dy
  · have HF : Hid (((4 : Int)) = M.dir dx dy) := Lib.hid (by unfold M.dir M.steps; clear q0 q1 q2 q3 q4 q5; repeat' split; all_goals omega)
    go_enter Tryz.func65, Tryz.ntmps65
    go_wp2_with fail
    go_ret
    exact ⟨ret_int HF.out, rfl⟩
  by_cases b1 : -dx < dy
  · have HF : Hid (((5 : Int)) = M.dir dx dy) := Lib.hid (by unfold M.dir M.steps; clear q0 q1 q2 q3 q4 q5; repeat' split; all_goals omega)
    go_enter Tryz.func65, Tryz.ntmps65
    go_wp2_with fail
    go_ret
    exact ⟨ret_int HF.out, rfl⟩
  by_cases b2 : -dx < 2 * dy
  · have HF : Hid (((6 : Int)) = M.dir dx dy) := Lib.hid (by unfold M.dir M.steps; clear q0 q1 q2 q3 q4 q5; repeat' split; all_goals omega)
    go_enter Tryz.func65, Tryz.ntmps65
    go_wp2_with fail
    go_ret
    exact ⟨ret_int HF.out, rfl⟩
  have HF : Hid (((7 : Int)) = M.dir dx dy) := Lib.hid (by unfold M.dir M.steps; clear q0 q1 q2 q3 q4 q5; repeat' split; all_goals omega)
  go_enter Tryz.func65, Tryz.ntmps65
  go_wp2_with fail
  go_ret
  exact ⟨ret_int HF.out, rfl⟩

set_option maxHeartbeats 2000000 in
theorem rDir3 (dx dy : Int) (w : World) (hx : -100 ≤ dx ∧ dx ≤ 100) (hy : -100 ≤ dy ∧ dy ≤ 100) (sx : 0 ≤ dx ∧ dx ≤ 0) (sy : dy < 0) : Calls Tryz.prog 65 #[.int .i64 dx, .int .i64 dy] w fun e w' => e = .returned (.int .i64 (M.dir dx dy)) ∧ w = w' := by
  have q0 : decide (dx ≤ 0) = true := by simp; omega
  have q1 : decide (0 < dy) = false := by simp; omega
  have q2 : decide (dx < 0) = false := by simp; omega
  have q3 : decide (dy ≤ 0) = true := by simp; omega
  have q4 : decide (0 ≤ dx) = true := by simp; omega
  have q5 : decide (dy < 0) = true := by simp; omega
  have b0 : 2 * dx < -dy := by omega
  have HF : Hid (((12 : Int)) = M.dir dx dy) := Lib.hid (by unfold M.dir M.steps; clear q0 q1 q2 q3 q4 q5; repeat' split; all_goals omega)
  go_enter Tryz.func65, Tryz.ntmps65
  go_wp2_with fail
  go_ret
  exact ⟨ret_int HF.out, rfl⟩

set_option maxHeartbeats 2000000 in
theorem rDir4 (dx dy : Int) (w : World) (hx : -100 ≤ dx ∧ dx ≤ 100) (hy : -100 ≤ dy ∧ dy ≤ 100) (sx : 0 ≤ dx ∧ dx ≤ 0) (sy : 0 < dy) : Calls Tryz.prog 65 #[.int .i64 dx, .int .i64 dy] w fun e w' => e = .returned (.int .i64 (M.dir dx dy)) ∧ w = w' := by
  have q0 : decide (dx ≤ 0) = true := by simp; omega
  have q1 : decide (0 < dy) = true := by simp; omega
  have q2 : decide (dx < 0) = false := by simp; omega
  have q3 : decide (dy ≤ 0) = false := by simp; omega
  have q4 : decide (0 ≤ dx) = true := by simp; omega
  have q5 : decide (dy < 0) = false := by simp; omega
  have b0 : 2 * (-dx) < dy := by omega
  have HF : Hid (((4 : Int)) = M.dir dx dy) := Lib.hid (by unfold M.dir M.steps; clear q0 q1 q2 q3 q4 q5; repeat' split; all_goals omega)
  go_enter Tryz.func65, Tryz.ntmps65
  go_wp2_with fail
  go_ret
  exact ⟨ret_int HF.out, rfl⟩

set_option maxHeartbeats 2000000 in
theorem rDir5 (dx dy : Int) (w : World) (hx : -100 ≤ dx ∧ dx ≤ 100) (hy : -100 ≤ dy ∧ dy ≤ 100) (sx : 0 < dx) (sy : dy < 0) : Calls Tryz.prog 65 #[.int .i64 dx, .int .i64 dy] w fun e w' => e = .returned (.int .i64 (M.dir dx dy)) ∧ w = w' := by
  have q0 : decide (dx ≤ 0) = false := by simp; omega
  have q1 : decide (0 < dy) = false := by simp; omega
  have q2 : decide (dx < 0) = false := by simp; omega
  have q3 : decide (dy ≤ 0) = true := by simp; omega
  have q4 : decide (0 ≤ dx) = true := by simp; omega
  have q5 : decide (dy < 0) = true := by simp; omega
  by_cases b0 : 2 * dx < -dy
  · have HF : Hid (((12 : Int)) = M.dir dx dy) := Lib.hid (by unfold M.dir M.steps; clear q0 q1 q2 q3 q4 q5; repeat' split; all_goals omega)
    go_enter Tryz.func65, Tryz.ntmps65
    go_wp2_with fail
    go_ret
    exact ⟨ret_int HF.out, rfl⟩
  by_cases b1 : dx < -dy
  · have HF : Hid (((13 : Int)) = M.dir dx dy) := Lib.hid (by unfold M.dir M.steps; clear q0 q1 q2 q3 q4 q5; repeat' split; all_goals omega)
    go_enter Tryz.func65, Tryz.ntmps65
    go_wp2_with fail
    go_ret
    exact ⟨ret_int HF.out, rfl⟩
  by_cases b2 : dx < 2 * (-dy)
  · have HF : Hid (((14 : Int)) = M.dir dx dy) := Lib.hid (by unfold M.dir M.steps; clear q0 q1 q2 q3 q4 q5; repeat' split; all_goals omega)
    go_enter Tryz.func65, Tryz.ntmps65
    go_wp2_with fail
    go_ret
    exact ⟨ret_int HF.out, rfl⟩
  have HF : Hid (((15 : Int)) = M.dir dx dy) := Lib.hid (by unfold M.dir M.steps; clear q0 q1 q2 q3 q4 q5; repeat' split; all_goals omega)
  go_enter Tryz.func65, Tryz.ntmps65
  go_wp2_with fail
  go_ret
  exact ⟨ret_int HF.out, rfl⟩

set_option maxHeartbeats 2000000 in
theorem rDir6 (dx dy : Int) (w : World) (hx : -100 ≤ dx ∧ dx ≤ 100) (hy : -100 ≤ dy ∧ dy ≤ 100) (sx : 0 < dx) (sy : 0 ≤ dy ∧ dy ≤ 0) : Calls Tryz.prog 65 #[.int .i64 dx, .int .i64 dy] w fun e w' => e = .returned (.int .i64 (M.dir dx dy)) ∧ w = w' := by
  have q0 : decide (dx ≤ 0) = false := by simp; omega
  have q1 : decide (0 < dy) = false := by simp; omega
  have q2 : decide (dx < 0) = false := by simp; omega
  have q3 : decide (dy ≤ 0) = true := by simp; omega
  have q4 : decide (0 ≤ dx) = true := by simp; omega
  have q5 : decide (dy < 0) = false := by simp; omega
  have b0 : 2 * dy < dx := by omega
  have HF : Hid (((0 : Int)) = M.dir dx dy) := Lib.hid (by unfold M.dir M.steps; clear q0 q1 q2 q3 q4 q5; repeat' split; all_goals omega)
  go_enter Tryz.func65, Tryz.ntmps65
  go_wp2_with fail
  go_ret
  exact ⟨ret_int HF.out, rfl⟩

set_option maxHeartbeats 2000000 in
theorem rDir7 (dx dy : Int) (w : World) (hx : -100 ≤ dx ∧ dx ≤ 100) (hy : -100 ≤ dy ∧ dy ≤ 100) (sx : 0 < dx) (sy : 0 < dy) : Calls Tryz.prog 65 #[.int .i64 dx, .int .i64 dy] w fun e w' => e = .returned (.int .i64 (M.dir dx dy)) ∧ w = w' := by
  have q0 : decide (dx ≤ 0) = false := by simp; omega
  have q1 : decide (0 < dy) = true := by simp; omega
  have q2 : decide (dx < 0) = false := by simp; omega
  have q3 : decide (dy ≤ 0) = false := by simp; omega
  have q4 : decide (0 ≤ dx) = true := by simp; omega
  have q5 : decide (dy < 0) = false := by simp; omega
  by_cases b0 : 2 * dy < dx
  · have HF : Hid (((0 : Int)) = M.dir dx dy) := Lib.hid (by unfold M.dir M.steps; clear q0 q1 q2 q3 q4 q5; repeat' split; all_goals omega)
    go_enter Tryz.func65, Tryz.ntmps65
    go_wp2_with fail
    go_ret
    exact ⟨ret_int HF.out, rfl⟩
  by_cases b1 : dy < dx
  · have HF : Hid (((1 : Int)) = M.dir dx dy) := Lib.hid (by unfold M.dir M.steps; clear q0 q1 q2 q3 q4 q5; repeat' split; all_goals omega)
    go_enter Tryz.func65, Tryz.ntmps65
    go_wp2_with fail
    go_ret
    exact ⟨ret_int HF.out, rfl⟩
  by_cases b2 : dy < 2 * dx
  · have HF : Hid (((2 : Int)) = M.dir dx dy) := Lib.hid (by unfold M.dir M.steps; clear q0 q1 q2 q3 q4 q5; repeat' split; all_goals omega)
    go_enter Tryz.func65, Tryz.ntmps65
    go_wp2_with fail
    go_ret
    exact ⟨ret_int HF.out, rfl⟩
  have HF : Hid (((3 : Int)) = M.dir dx dy) := Lib.hid (by unfold M.dir M.steps; clear q0 q1 q2 q3 q4 q5; repeat' split; all_goals omega)
  go_enter Tryz.func65, Tryz.ntmps65
  go_wp2_with fail
  go_ret
  exact ⟨ret_int HF.out, rfl⟩

theorem rDir_ok (dx dy : Int) (w : World) (hx : -100 ≤ dx ∧ dx ≤ 100) (hy : -100 ≤ dy ∧ dy ≤ 100) (h0 : ¬ (dx = 0 ∧ dy = 0)) : Calls Tryz.prog 65 #[.int .i64 dx, .int .i64 dy] w fun e w' => e = .returned (.int .i64 (M.dir dx dy)) ∧ w = w' := by
  have tx : dx < 0 ∨ dx = 0 ∨ 0 < dx := by omega
  have ty : dy < 0 ∨ dy = 0 ∨ 0 < dy := by omega
  rcases tx with a | a | a <;> rcases ty with b | b | b
  · exact rDir0 dx dy w hx hy a b
  · exact rDir1 dx dy w hx hy a (by omega)
  · exact rDir2 dx dy w hx hy a b
  · exact rDir3 dx dy w hx hy (by omega) b
  · exact absurd ⟨a, b⟩ h0
  · exact rDir4 dx dy w hx hy (by omega) b
  · exact rDir5 dx dy w hx hy a b
  · exact rDir6 dx dy w hx hy a (by omega)
  · exact rDir7 dx dy w hx hy a b

set_option maxHeartbeats 4000000 in
theorem rALoss_ok (h : Int) (A : Option Addr) (c : Nat) (pat : List Int) (dx dy : Int) (w : World) (hS : Sl 1 icell w w.heap.size A pat) (hv : M.avalid h pat = true) (hx : -100 ≤ dx ∧ dx ≤ 100) (hy : -100 ≤ dy ∧ dy ≤ 100) :
    Calls Tryz.prog 56 #[av h A pat.length c, .int .i64 dx, .int .i64 dy] w fun e w' => e = .returned (.int .i64 (M.aloss pat dx dy)) ∧ Below w.heap.size w w' := by
  obtain ⟨V, HW, x0, hB, -⟩ := boxes1 w #[.int .i64 h, .slice A pat.length c] 26
  have hS1 := (hS.below hB).more hB.size
  obtain ⟨-, hl, -⟩ := M.avalid_iff.1 hv
  have HL := Lib.hid hl
  clear hl hv
  by_cases h0 : dx = 0 ∧ dy = 0
  · obtain ⟨rfl, rfl⟩ := h0
    have HF := Lib.hid (M.aloss_zero pat)
    go_enter Tryz.func56, Tryz.ntmps56
    go_wp2_with fail
    go_ret
    exact ⟨ret_int HF.out.symm, by rw [HW.out]; exact hB⟩
  · have hdb := M.dir_bd dx dy
    obtain ⟨j, hj⟩ := Int.eq_ofNat_of_zero_le hdb.1
    have hjl : j < pat.length := by have := HL.out; omega
    have HF := Lib.hid (M.aloss_at h0 hj hjl)
    have HJ := Lib.hid hj
    have H0 := Lib.hid h0
    have key : ∀ w1, Hid (dx = dx) → Calls Tryz.prog 65 #[.int .i64 dx, .int .i64 dy] w1 fun e w' => e = .returned (.int .i64 (j : Int)) ∧ w1 = w' := by
      intro w1 _
      have := rDir_ok dx dy w1 hx hy H0.out
      rwa [HJ.out] at this
    have hK : Hid (dx = dx) := Lib.hid rfl
    obtain ⟨c0, c1⟩ := x0.c2
    obtain ⟨ad, rfl, hab, da⟩ := hS1.int_at hjl
    rw [HF.out] at da
    have hab2 : (ad.add j).block < V.heap.size := by rw [add_block]; exact hab
    have l0 := x0.lt
    have r1 : (0 : Int) ≤ (j : Int) := by omega
    have r2 : (j : Int) < (pat.length : Int) := by omega
    clear hj hdb
    by_cases hx0 : dx = 0
    · have hy0 : ¬ dy = 0 := fun h => h0 ⟨hx0, h⟩
      have q2 : (dy == 0) = false := by simp [hy0]
      subst hx0
      clear h0
      go_enter Tryz.func56, Tryz.ntmps56
      go_wp2_with fail
      rw [HW.out]
      refine wp_region_kept V.heap.size V (by kernel_rfl) (by kernel_rfl) (Below.refl _ _) ?_
      repeat (go_big_quiet_step ((go_at_call 65; exact Kept.same (key _ hK))))
      refine wpQuiet_nil ?_
      rintro w1 ⟨⟨_, hb1⟩, rfl⟩
      go_wp2_with fail
      go_ret
      exact ⟨rfl, after_ hB hb1⟩
    · have q1 : (dx == 0) = false := by simp [hx0]
      clear h0
      go_enter Tryz.func56, Tryz.ntmps56
      go_wp2_with fail
      rw [HW.out]
      refine wp_region_kept V.heap.size V (by kernel_rfl) (by kernel_rfl) (Below.refl _ _) ?_
      repeat (go_big_quiet_step ((go_at_call 65; exact Kept.same (key _ hK))))
      refine wpQuiet_nil ?_
      rintro w1 ⟨⟨_, hb1⟩, rfl⟩
      go_wp2_with fail
      go_ret
      exact ⟨rfl, after_ hB hb1⟩
end Go.Proofs.YtohkbblfcjmmnaaGreatDoor
