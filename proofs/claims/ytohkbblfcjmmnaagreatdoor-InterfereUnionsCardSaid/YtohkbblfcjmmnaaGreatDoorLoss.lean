/- Layer 11: Square, Obstructions, Total. -/
import Derived.Test.YtohkbblfcjmmnaaGreatDoorProf
import Derived.Test.YtohkbblfcjmmnaaGreatDoorNum2
namespace Go.Proofs.YtohkbblfcjmmnaaGreatDoor
open Go Go.RowKit
set_option maxRecDepth 100000

def M.fine63 (ax ay bx by' : Int) : Bool := M.isIn ax 0 63 && M.isIn ay 0 63 && (M.isIn bx 0 63 && M.isIn by' 0 63)
theorem M.fine63_iff {ax ay bx by' : Int} : M.fine63 ax ay bx by' = true ↔ M.c63 ax ∧ M.c63 ay ∧ M.c63 bx ∧ M.c63 by' := by
  unfold M.fine63 M.c63
  simp only [Bool.and_eq_true, M.isIn_iff]
  constructor
  · rintro ⟨⟨a, b⟩, c, d⟩; exact ⟨a, b, c, d⟩
  · rintro ⟨a, b, c, d⟩; exact ⟨⟨a, b⟩, c, d⟩

set_option maxHeartbeats 4000000 in
theorem square_ok (ax ay bx by' : Int) (w : World) (h1 : M.c63 ax) (h2 : M.c63 ay) (h3 : M.c63 bx) (h4 : M.c63 by') :
    Calls Tryz.prog 74 #[cv ax ay, cv bx by'] w fun e w' => e = .returned (.tuple #[.int .i64 (M.sq ax ay bx by'), .int .i64 0]) ∧ Below w.heap.size w w' := by
  obtain ⟨V, HW, x0, x1, hB, -⟩ := boxes2 w #[.int .i64 ax, .int .i64 ay] 60 #[.int .i64 bx, .int .i64 by'] 60
  have hsx := M.sq_half h1 h3
  have hsy := M.sq_half h2 h4
  have HQ : Hid (M.sq ax ay bx by' = (bx - ax) * (bx - ax) + (by' - ay) * (by' - ay)) := Lib.hid rfl
  unfold M.c63 at h1 h2 h3 h4
  obtain ⟨dx, hdx⟩ : ∃ d, bx - ax = d := ⟨_, rfl⟩
  obtain ⟨dy, hdy⟩ : ∃ d, by' - ay = d := ⟨_, rfl⟩
  rw [hdx] at hsx HQ
  rw [hdy] at hsy HQ
  obtain ⟨qx, hqx⟩ : ∃ d, dx * dx = d := ⟨_, rfl⟩
  obtain ⟨qy, hqy⟩ : ∃ d, dy * dy = d := ⟨_, rfl⟩
  rw [hqx] at hsx HQ
  rw [hqy] at hsy HQ
  have bdx : -63 ≤ dx ∧ dx ≤ 63 := by omega
  have bdy : -63 ≤ dy ∧ dy ≤ 63 := by omega
  have q0 : decide (ax < 0) = false := by simp; omega
  have r0 : decide (64 ≤ ax) = false := by simp; omega
  have q1 : decide (ay < 0) = false := by simp; omega
  have r1 : decide (64 ≤ ay) = false := by simp; omega
  have q2 : decide (bx < 0) = false := by simp; omega
  have r2 : decide (64 ≤ bx) = false := by simp; omega
  have q3 : decide (by' < 0) = false := by simp; omega
  have r3 : decide (64 ≤ by') = false := by simp; omega
  obtain ⟨c0, c1⟩ := x0.c2
  obtain ⟨d0, d1⟩ := x1.c2
  go_enter Tryz.func74, Tryz.ntmps74
  go_wp2_with fail
  rw [HW.out]
  go_loop [7, 19] (fun _ i => (i = .int .i64 0 ∨ i = .int .i64 1 ∨ i = .int .i64 2 ∨ i = .int .i64 3 ∨ i = .int .i64 4)) (fun _ i => 4 - (intOf i).toNat)
  case atStart => exact .inl rfl
  case round =>
    have j0 : ∀ w, (Instr.index 119 (.agg #[.int .i64 ax, .int .i64 ay, .int .i64 bx, .int .i64 by']) (.int .i64 0)).run Tryz.prog w = .ok (.int .i64 ax) w := fun _ => by kernel_rfl
    have j1 : ∀ w, (Instr.index 119 (.agg #[.int .i64 ax, .int .i64 ay, .int .i64 bx, .int .i64 by']) (.int .i64 1)).run Tryz.prog w = .ok (.int .i64 ay) w := fun _ => by kernel_rfl
    have j2 : ∀ w, (Instr.index 119 (.agg #[.int .i64 ax, .int .i64 ay, .int .i64 bx, .int .i64 by']) (.int .i64 2)).run Tryz.prog w = .ok (.int .i64 bx) w := fun _ => by kernel_rfl
    have j3 : ∀ w, (Instr.index 119 (.agg #[.int .i64 ax, .int .i64 ay, .int .i64 bx, .int .i64 by']) (.int .i64 3)).run Tryz.prog w = .ok (.int .i64 by') w := fun _ => by kernel_rfl
    obtain rfl | rfl | rfl | rfl | rfl := hrel
    · go_wp2_with fail
      go_round
      case rel => exact .inr (.inl rfl)
      case measure => simp [intOf]
    · go_wp2_with fail
      go_round
      case rel => exact .inr (.inr (.inl rfl))
      case measure => simp [intOf]
    · go_wp2_with fail
      go_round
      case rel => exact .inr (.inr (.inr (.inl rfl)))
      case measure => simp [intOf]
    · go_wp2_with fail
      go_round
      case rel => exact .inr (.inr (.inr (.inr rfl)))
      case measure => simp [intOf]
    · clear j0 j1 j2 j3
      go_wp2_with fail
      go_quiet (fail)
      go_wp2_with fail
      go_ret2
      exact ⟨ret_int2 HQ.out.symm rfl, below_drewN hB _⟩

set_option maxHeartbeats 4000000 in
theorem square_no (ax ay bx by' : Int) (w : World) (hno : M.fine63 ax ay bx by' = false) :
    Calls Tryz.prog 74 #[cv ax ay, cv bx by'] w fun e w' => e = .returned (.tuple #[.int .i64 0, .int .i64 2]) ∧ Below w.heap.size w w' := by
  obtain ⟨V, HW, x0, x1, hB, -⟩ := boxes2 w #[.int .i64 ax, .int .i64 ay] 60 #[.int .i64 bx, .int .i64 by'] 60
  obtain ⟨c0, c1⟩ := x0.c2
  obtain ⟨d0, d1⟩ := x1.c2
  have HN := Lib.hid hno
  clear hno
  go_enter Tryz.func74, Tryz.ntmps74
  go_wp2_with fail
  rw [HW.out]
  go_loop [7, 19] (fun _ i => (i = .int .i64 0) ∨ (i = .int .i64 1 ∧ Hid (M.c63 ax)) ∨ (i = .int .i64 2 ∧ Hid (M.c63 ax ∧ M.c63 ay)) ∨ (i = .int .i64 3 ∧ Hid (M.c63 ax ∧ M.c63 ay ∧ M.c63 bx)) ∨ (i = .int .i64 4 ∧ Hid (M.c63 ax ∧ M.c63 ay ∧ M.c63 bx ∧ M.c63 by'))) (fun _ i => 4 - (intOf i).toNat)
  case atStart => exact .inl rfl
  case round =>
    have j0 : ∀ w, (Instr.index 119 (.agg #[.int .i64 ax, .int .i64 ay, .int .i64 bx, .int .i64 by']) (.int .i64 0)).run Tryz.prog w = .ok (.int .i64 ax) w := fun _ => by kernel_rfl
    have j1 : ∀ w, (Instr.index 119 (.agg #[.int .i64 ax, .int .i64 ay, .int .i64 bx, .int .i64 by']) (.int .i64 1)).run Tryz.prog w = .ok (.int .i64 ay) w := fun _ => by kernel_rfl
    have j2 : ∀ w, (Instr.index 119 (.agg #[.int .i64 ax, .int .i64 ay, .int .i64 bx, .int .i64 by']) (.int .i64 2)).run Tryz.prog w = .ok (.int .i64 bx) w := fun _ => by kernel_rfl
    have j3 : ∀ w, (Instr.index 119 (.agg #[.int .i64 ax, .int .i64 ay, .int .i64 bx, .int .i64 by']) (.int .i64 3)).run Tryz.prog w = .ok (.int .i64 by') w := fun _ => by kernel_rfl
    obtain rfl | ⟨rfl, H1⟩ | ⟨rfl, H1⟩ | ⟨rfl, H1⟩ | ⟨rfl, H1⟩ := hrel
    · by_cases h : 0 ≤ ax ∧ ax ≤ 63
      · have q : decide (ax < 0) = false := by simp; omega
        have r : decide (64 ≤ ax) = false := by simp; omega
        go_wp2_with fail
        go_round
        case rel => exact .inr (.inl ⟨rfl, Lib.hid h⟩)
        case measure => simp [intOf]
      · by_cases q : decide (ax < 0) = true
        · clear h
          go_wp2_with fail
          go_ret2
          exact ⟨rfl, hB⟩
        · have q1 : decide (ax < 0) = false := by simpa using q
          have r : decide (64 ≤ ax) = true := by simp at q1 ⊢; omega
          clear h q
          go_wp2_with fail
          go_ret2
          exact ⟨rfl, hB⟩
    · by_cases h : 0 ≤ ay ∧ ay ≤ 63
      · have q : decide (ay < 0) = false := by simp; omega
        have r : decide (64 ≤ ay) = false := by simp; omega
        go_wp2_with fail
        go_round
        case rel => exact .inr (.inr (.inl ⟨rfl, Lib.hid ⟨H1.out, h⟩⟩))
        case measure => simp [intOf]
      · by_cases q : decide (ay < 0) = true
        · clear h
          go_wp2_with fail
          go_ret2
          exact ⟨rfl, hB⟩
        · have q1 : decide (ay < 0) = false := by simpa using q
          have r : decide (64 ≤ ay) = true := by simp at q1 ⊢; omega
          clear h q
          go_wp2_with fail
          go_ret2
          exact ⟨rfl, hB⟩
    · by_cases h : 0 ≤ bx ∧ bx ≤ 63
      · have q : decide (bx < 0) = false := by simp; omega
        have r : decide (64 ≤ bx) = false := by simp; omega
        go_wp2_with fail
        go_round
        case rel => exact .inr (.inr (.inr (.inl ⟨rfl, Lib.hid ⟨H1.out.1, H1.out.2, h⟩⟩)))
        case measure => simp [intOf]
      · by_cases q : decide (bx < 0) = true
        · clear h
          go_wp2_with fail
          go_ret2
          exact ⟨rfl, hB⟩
        · have q1 : decide (bx < 0) = false := by simpa using q
          have r : decide (64 ≤ bx) = true := by simp at q1 ⊢; omega
          clear h q
          go_wp2_with fail
          go_ret2
          exact ⟨rfl, hB⟩
    · by_cases h : 0 ≤ by' ∧ by' ≤ 63
      · have := M.fine63_iff.2 ⟨H1.out.1, H1.out.2.1, H1.out.2.2, h⟩
        rw [HN.out] at this
        cases this
      · by_cases q : decide (by' < 0) = true
        · clear h
          go_wp2_with fail
          go_ret2
          exact ⟨rfl, hB⟩
        · have q1 : decide (by' < 0) = false := by simpa using q
          have r : decide (64 ≤ by') = true := by simp at q1 ⊢; omega
          clear h q
          go_wp2_with fail
          go_ret2
          exact ⟨rfl, hB⟩
    · have := M.fine63_iff.2 H1.out
      rw [HN.out] at this
      cases this
end Go.Proofs.YtohkbblfcjmmnaaGreatDoor
