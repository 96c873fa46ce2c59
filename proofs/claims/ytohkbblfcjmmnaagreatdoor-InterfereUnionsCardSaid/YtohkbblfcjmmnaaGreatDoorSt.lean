/- Layer 13: Band and Valid of stations, the program's and the reference's. -/
import Derived.Test.YtohkbblfcjmmnaaGreatDoorRDir
namespace Go.Proofs.YtohkbblfcjmmnaaGreatDoor
open Go Go.RowKit
set_option maxRecDepth 100000

abbrev stc (s : St) (A : Option Addr) (c : Nat) : Array Value := #[.int .i64 s.id, .int .i64 s.x, .int .i64 s.y, .int .i64 s.pw, .int .i64 s.h, .slice A s.pat.length c, .int .i64 s.band, .int .i64 s.ch]
abbrev stv (s : St) (A : Option Addr) (c : Nat) : Value := .agg (stc s A c)

set_option maxHeartbeats 2000000 in
theorem band_any (ch : Int) (w : World) : Calls Tryz.prog 59 #[.int .i64 ch] w fun e w' => e = .returned (.int .i64 (M.band ch)) ∧ w = w' := by
  by_cases b0 : ch < 2
  · have q0 : decide (ch < 2) = true := decide_eq_true b0
    have HF : Hid ((0 : Int) = M.band ch) := Lib.hid (by unfold M.band; repeat' split; all_goals omega)
    go_enter Tryz.func59, Tryz.ntmps59
    go_wp2_with fail
    go_ret
    exact ⟨ret_int HF.out, rfl⟩
  have q0 : decide (ch < 2) = false := decide_eq_false b0
  by_cases b1 : 51 < ch
  · have q1 : decide (51 < ch) = true := decide_eq_true b1
    have HF : Hid ((0 : Int) = M.band ch) := Lib.hid (by unfold M.band; repeat' split; all_goals omega)
    go_enter Tryz.func59, Tryz.ntmps59
    go_wp2_with fail
    go_ret
    exact ⟨ret_int HF.out, rfl⟩
  have q1 : decide (51 < ch) = false := decide_eq_false b1
  by_cases b2 : ch ≤ 6
  · have q2 : decide (ch ≤ 6) = true := decide_eq_true b2
    have HF : Hid ((1 : Int) = M.band ch) := Lib.hid (by unfold M.band; repeat' split; all_goals omega)
    go_enter Tryz.func59, Tryz.ntmps59
    go_wp2_with fail
    go_ret
    exact ⟨ret_int HF.out, rfl⟩
  have q2 : decide (ch ≤ 6) = false := decide_eq_false b2
  by_cases b3 : ch ≤ 13
  · have q3 : decide (ch ≤ 13) = true := decide_eq_true b3
    have HF : Hid ((2 : Int) = M.band ch) := Lib.hid (by unfold M.band; repeat' split; all_goals omega)
    go_enter Tryz.func59, Tryz.ntmps59
    go_wp2_with fail
    go_ret
    exact ⟨ret_int HF.out, rfl⟩
  have q3 : decide (ch ≤ 13) = false := decide_eq_false b3
  have HF : Hid ((3 : Int) = M.band ch) := Lib.hid (by unfold M.band; repeat' split; all_goals omega)
  go_enter Tryz.func59, Tryz.ntmps59
  go_wp2_with fail
  go_ret
  exact ⟨ret_int HF.out, rfl⟩

set_option maxHeartbeats 2000000 in
theorem rBand_any (ch : Int) (w : World) : Calls Tryz.prog 54 #[.int .i64 ch] w fun e w' => e = .returned (.int .i64 (M.band ch)) ∧ w = w' := by
  by_cases b0 : ch < 2
  · have q0 : decide (ch < 2) = true := decide_eq_true b0
    have HF : Hid ((0 : Int) = M.band ch) := Lib.hid (by unfold M.band; repeat' split; all_goals omega)
    go_enter Tryz.func54, Tryz.ntmps54
    go_wp2_with fail
    go_ret
    exact ⟨ret_int HF.out, rfl⟩
  have q0 : decide (ch < 2) = false := decide_eq_false b0
  by_cases b1 : 51 < ch
  · have q1 : decide (51 < ch) = true := decide_eq_true b1
    have HF : Hid ((0 : Int) = M.band ch) := Lib.hid (by unfold M.band; repeat' split; all_goals omega)
    go_enter Tryz.func54, Tryz.ntmps54
    go_wp2_with fail
    go_ret
    exact ⟨ret_int HF.out, rfl⟩
  have q1 : decide (51 < ch) = false := decide_eq_false b1
  by_cases b2 : ch ≤ 6
  · have q2 : decide (ch ≤ 6) = true := decide_eq_true b2
    have HF : Hid ((1 : Int) = M.band ch) := Lib.hid (by unfold M.band; repeat' split; all_goals omega)
    go_enter Tryz.func54, Tryz.ntmps54
    go_wp2_with fail
    go_ret
    exact ⟨ret_int HF.out, rfl⟩
  have q2 : decide (ch ≤ 6) = false := decide_eq_false b2
  by_cases b3 : ch ≤ 13
  · have q3 : decide (ch ≤ 13) = true := decide_eq_true b3
    have HF : Hid ((2 : Int) = M.band ch) := Lib.hid (by unfold M.band; repeat' split; all_goals omega)
    go_enter Tryz.func54, Tryz.ntmps54
    go_wp2_with fail
    go_ret
    exact ⟨ret_int HF.out, rfl⟩
  have q3 : decide (ch ≤ 13) = false := decide_eq_false b3
  have HF : Hid ((3 : Int) = M.band ch) := Lib.hid (by unfold M.band; repeat' split; all_goals omega)
  go_enter Tryz.func54, Tryz.ntmps54
  go_wp2_with fail
  go_ret
  exact ⟨ret_int HF.out, rfl⟩

theorem M.svalid_not {s : St} (h : ¬ ((0 ≤ s.id ∧ s.id ≤ 511) ∧ (0 ≤ s.x ∧ s.x ≤ 63) ∧ (0 ≤ s.y ∧ s.y ≤ 63) ∧ (0 ≤ s.pw ∧ s.pw ≤ 300) ∧ (2 ≤ s.ch ∧ s.ch ≤ 51) ∧ s.band = M.band s.ch)) : M.svalid s = false := by
  cases hv : M.svalid s with
  | false => rfl
  | true => obtain ⟨a, b, c, d, e, f, _⟩ := M.svalid_iff.1 hv; exact absurd ⟨a, b, c, d, e, f⟩ h
theorem M.svalid_eq {s : St} (h1 : 0 ≤ s.id ∧ s.id ≤ 511) (h2 : 0 ≤ s.x ∧ s.x ≤ 63) (h3 : 0 ≤ s.y ∧ s.y ≤ 63) (h4 : 0 ≤ s.pw ∧ s.pw ≤ 300) (h5 : 2 ≤ s.ch ∧ s.ch ≤ 51) (h6 : s.band = M.band s.ch) : M.svalid s = M.avalid s.h s.pat := by
  rw [Bool.eq_iff_iff, M.svalid_iff]
  exact ⟨fun h => h.2.2.2.2.2.2, fun h => ⟨h1, h2, h3, h4, h5, h6, h⟩⟩
theorem M.svalid_av {s : St} (h : M.avalid s.h s.pat = false) : M.svalid s = false := by
  cases hv : M.svalid s with
  | false => rfl
  | true => have := (M.svalid_iff.1 hv).2.2.2.2.2.2; rw [h] at this; cases this

set_option maxHeartbeats 8000000 in
theorem sValid_any (s : St) (A : Option Addr) (c : Nat) (w : World) (hS : Sl 1 icell w w.heap.size A s.pat) (hl : s.pat.length ≤ 9223372036854775806) :
    Calls Tryz.prog 45 #[stv s A c] w fun e w' => e = .returned (.bool (M.svalid s)) ∧ Below w.heap.size w w' := by
  obtain ⟨V, HW, x0, hB, -⟩ := boxes1 w (stc s A c) 28
  have hS1 := (hS.below hB).more hB.size
  have HN : Hid (¬ ((0 ≤ s.id ∧ s.id ≤ 511) ∧ (0 ≤ s.x ∧ s.x ≤ 63) ∧ (0 ≤ s.y ∧ s.y ≤ 63) ∧ (0 ≤ s.pw ∧ s.pw ≤ 300) ∧ (2 ≤ s.ch ∧ s.ch ≤ 51) ∧ s.band = M.band s.ch) → false = M.svalid s) := Lib.hid (fun h => (M.svalid_not h).symm)
  have HE : Hid (0 ≤ s.id ∧ s.id ≤ 511 → 0 ≤ s.x ∧ s.x ≤ 63 → 0 ≤ s.y ∧ s.y ≤ 63 → 0 ≤ s.pw ∧ s.pw ≤ 300 → 2 ≤ s.ch ∧ s.ch ≤ 51 → s.band = M.band s.ch → M.svalid s = M.avalid s.h s.pat) := Lib.hid M.svalid_eq
  have HA : Hid (M.avalid s.h s.pat = false → false = M.svalid s) := Lib.hid (fun h => (M.svalid_av h).symm)
  obtain ⟨id, x, y, pw, h, pat, bd, ch⟩ := s
  simp only at hS1 hl HN HE HA
  generalize M.svalid ⟨id, x, y, pw, h, pat, bd, ch⟩ = r at *
  obtain ⟨c0, c1, c2, c3, c4, c5, c6, c7⟩ := x0.c8
  have l0 := x0.lt
  by_cases b0 : id < 0
  · have q0 : decide (id < 0) = true := decide_eq_true b0
    have HF := Lib.hid (HN.out (by omega))
    go_enter Tryz.func45, Tryz.ntmps45
    go_wp2_with fail
    go_ret
    exact ⟨ret_bool HF.out, by rw [HW.out]; exact hB⟩
  have q0 : decide (id < 0) = false := decide_eq_false b0
  by_cases b1 : 512 ≤ id
  · have q1 : decide (512 ≤ id) = true := decide_eq_true b1
    have HF := Lib.hid (HN.out (by omega))
    go_enter Tryz.func45, Tryz.ntmps45
    go_wp2_with fail
    go_ret
    exact ⟨ret_bool HF.out, by rw [HW.out]; exact hB⟩
  have q1 : decide (512 ≤ id) = false := decide_eq_false b1
  by_cases b2 : x < 0
  · have q2 : decide (x < 0) = true := decide_eq_true b2
    have HF := Lib.hid (HN.out (by omega))
    go_enter Tryz.func45, Tryz.ntmps45
    go_wp2_with fail
    go_ret
    exact ⟨ret_bool HF.out, by rw [HW.out]; exact hB⟩
  have q2 : decide (x < 0) = false := decide_eq_false b2
  by_cases b3 : 64 ≤ x
  · have q3 : decide (64 ≤ x) = true := decide_eq_true b3
    have HF := Lib.hid (HN.out (by omega))
    go_enter Tryz.func45, Tryz.ntmps45
    go_wp2_with fail
    go_ret
    exact ⟨ret_bool HF.out, by rw [HW.out]; exact hB⟩
  have q3 : decide (64 ≤ x) = false := decide_eq_false b3
  by_cases b4 : y < 0
  · have q4 : decide (y < 0) = true := decide_eq_true b4
    have HF := Lib.hid (HN.out (by omega))
    go_enter Tryz.func45, Tryz.ntmps45
    go_wp2_with fail
    go_ret
    exact ⟨ret_bool HF.out, by rw [HW.out]; exact hB⟩
  have q4 : decide (y < 0) = false := decide_eq_false b4
  by_cases b5 : 64 ≤ y
  · have q5 : decide (64 ≤ y) = true := decide_eq_true b5
    have HF := Lib.hid (HN.out (by omega))
    go_enter Tryz.func45, Tryz.ntmps45
    go_wp2_with fail
    go_ret
    exact ⟨ret_bool HF.out, by rw [HW.out]; exact hB⟩
  have q5 : decide (64 ≤ y) = false := decide_eq_false b5
  by_cases b6 : pw < 0
  · have q6 : decide (pw < 0) = true := decide_eq_true b6
    have HF := Lib.hid (HN.out (by omega))
    go_enter Tryz.func45, Tryz.ntmps45
    go_wp2_with fail
    go_ret
    exact ⟨ret_bool HF.out, by rw [HW.out]; exact hB⟩
  have q6 : decide (pw < 0) = false := decide_eq_false b6
  by_cases b7 : 300 < pw
  · have q7 : decide (300 < pw) = true := decide_eq_true b7
    have HF := Lib.hid (HN.out (by omega))
    go_enter Tryz.func45, Tryz.ntmps45
    go_wp2_with fail
    go_ret
    exact ⟨ret_bool HF.out, by rw [HW.out]; exact hB⟩
  have q7 : decide (300 < pw) = false := decide_eq_false b7
  by_cases b8 : ch < 2
  · have q8 : decide (ch < 2) = true := decide_eq_true b8
    have HF := Lib.hid (HN.out (by omega))
    go_enter Tryz.func45, Tryz.ntmps45
    go_wp2_with fail
    go_ret
    exact ⟨ret_bool HF.out, by rw [HW.out]; exact hB⟩
  have q8 : decide (ch < 2) = false := decide_eq_false b8
  by_cases b9 : 51 < ch
  · have q9 : decide (51 < ch) = true := decide_eq_true b9
    have HF := Lib.hid (HN.out (by omega))
    go_enter Tryz.func45, Tryz.ntmps45
    go_wp2_with fail
    go_ret
    exact ⟨ret_bool HF.out, by rw [HW.out]; exact hB⟩
  have q9 : decide (51 < ch) = false := decide_eq_false b9
  by_cases hb : bd = M.band ch
  · have HF := Lib.hid (HE.out (by omega) (by omega) (by omega) (by omega) (by omega) hb)
    have q : (bd == M.band ch) = true := by simp [hb]
    clear hb
    go_enter Tryz.func45, Tryz.ntmps45
    go_wp2_with fail
    rw [HW.out]
    refine wp_region_kept V.heap.size V (by kernel_rfl) (by kernel_rfl) (Below.refl _ _) ?_
    repeat (go_big_quiet_step ((first | (go_at_call 59; exact Kept.same (band_any ch _)) | (go_at_call 60; exact Kept.calls (Nat.le_refl _) (aValid_any h A c pat _ hS1.kept hl)))))
    refine wpQuiet_nil ?_
    rintro w1 ⟨⟨_, hb1⟩, rfl⟩
    go_wp2_with fail
    go_ret
    exact ⟨ret_bool HF.out.symm, after_ hB hb1⟩
  · have HF := Lib.hid (HN.out (by omega))
    have q : (bd == M.band ch) = false := by simp [hb]
    clear hb
    go_enter Tryz.func45, Tryz.ntmps45
    go_wp2_with fail
    rw [HW.out]
    refine wp_region_kept V.heap.size V (by kernel_rfl) (by kernel_rfl) (Below.refl _ _) ?_
    repeat (go_big_quiet_step ((first | (go_at_call 59; exact Kept.same (band_any ch _)) | (go_at_call 60; exact Kept.calls (Nat.le_refl _) (aValid_any h A c pat _ hS1.kept hl)))))
    refine wpQuiet_nil ?_
    rintro w1 ⟨⟨_, hb1⟩, rfl⟩
    go_wp2_with fail
    go_ret
    exact ⟨ret_bool HF.out, after_ hB hb1⟩

set_option maxHeartbeats 8000000 in
theorem rSValid_any (s : St) (A : Option Addr) (c : Nat) (w : World) (hS : Sl 1 icell w w.heap.size A s.pat) (hl : s.pat.length ≤ 9223372036854775806) :
    Calls Tryz.prog 36 #[stv s A c] w fun e w' => e = .returned (.bool (M.svalid s)) ∧ Below w.heap.size w w' := by
  obtain ⟨V, HW, x0, hB, -⟩ := boxes1 w (stc s A c) 28
  have hS1 := (hS.below hB).more hB.size
  have HN : Hid (¬ ((0 ≤ s.id ∧ s.id ≤ 511) ∧ (0 ≤ s.x ∧ s.x ≤ 63) ∧ (0 ≤ s.y ∧ s.y ≤ 63) ∧ (0 ≤ s.pw ∧ s.pw ≤ 300) ∧ (2 ≤ s.ch ∧ s.ch ≤ 51) ∧ s.band = M.band s.ch) → false = M.svalid s) := Lib.hid (fun h => (M.svalid_not h).symm)
  have HE : Hid (0 ≤ s.id ∧ s.id ≤ 511 → 0 ≤ s.x ∧ s.x ≤ 63 → 0 ≤ s.y ∧ s.y ≤ 63 → 0 ≤ s.pw ∧ s.pw ≤ 300 → 2 ≤ s.ch ∧ s.ch ≤ 51 → s.band = M.band s.ch → M.svalid s = M.avalid s.h s.pat) := Lib.hid M.svalid_eq
  have HA : Hid (M.avalid s.h s.pat = false → false = M.svalid s) := Lib.hid (fun h => (M.svalid_av h).symm)
  obtain ⟨id, x, y, pw, h, pat, bd, ch⟩ := s
  simp only at hS1 hl HN HE HA
  generalize M.svalid ⟨id, x, y, pw, h, pat, bd, ch⟩ = r at *
  obtain ⟨c0, c1, c2, c3, c4, c5, c6, c7⟩ := x0.c8
  have l0 := x0.lt
  by_cases b0 : id < 0
  · have q0 : decide (id < 0) = true := decide_eq_true b0
    have HF := Lib.hid (HN.out (by omega))
    go_enter Tryz.func36, Tryz.ntmps36
    go_wp2_with fail
    go_ret
    exact ⟨ret_bool HF.out, by rw [HW.out]; exact hB⟩
  have q0 : decide (id < 0) = false := decide_eq_false b0
  by_cases b1 : 511 < id
  · have q1 : decide (511 < id) = true := decide_eq_true b1
    have HF := Lib.hid (HN.out (by omega))
    go_enter Tryz.func36, Tryz.ntmps36
    go_wp2_with fail
    go_ret
    exact ⟨ret_bool HF.out, by rw [HW.out]; exact hB⟩
  have q1 : decide (511 < id) = false := decide_eq_false b1
  by_cases b2 : x < 0
  · have q2 : decide (x < 0) = true := decide_eq_true b2
    have HF := Lib.hid (HN.out (by omega))
    go_enter Tryz.func36, Tryz.ntmps36
    go_wp2_with fail
    go_ret
    exact ⟨ret_bool HF.out, by rw [HW.out]; exact hB⟩
  have q2 : decide (x < 0) = false := decide_eq_false b2
  by_cases b3 : 63 < x
  · have q3 : decide (63 < x) = true := decide_eq_true b3
    have HF := Lib.hid (HN.out (by omega))
    go_enter Tryz.func36, Tryz.ntmps36
    go_wp2_with fail
    go_ret
    exact ⟨ret_bool HF.out, by rw [HW.out]; exact hB⟩
  have q3 : decide (63 < x) = false := decide_eq_false b3
  by_cases b4 : y < 0
  · have q4 : decide (y < 0) = true := decide_eq_true b4
    have HF := Lib.hid (HN.out (by omega))
    go_enter Tryz.func36, Tryz.ntmps36
    go_wp2_with fail
    go_ret
    exact ⟨ret_bool HF.out, by rw [HW.out]; exact hB⟩
  have q4 : decide (y < 0) = false := decide_eq_false b4
  by_cases b5 : 63 < y
  · have q5 : decide (63 < y) = true := decide_eq_true b5
    have HF := Lib.hid (HN.out (by omega))
    go_enter Tryz.func36, Tryz.ntmps36
    go_wp2_with fail
    go_ret
    exact ⟨ret_bool HF.out, by rw [HW.out]; exact hB⟩
  have q5 : decide (63 < y) = false := decide_eq_false b5
  by_cases b6 : pw < 0
  · have q6 : decide (pw < 0) = true := decide_eq_true b6
    have HF := Lib.hid (HN.out (by omega))
    go_enter Tryz.func36, Tryz.ntmps36
    go_wp2_with fail
    go_ret
    exact ⟨ret_bool HF.out, by rw [HW.out]; exact hB⟩
  have q6 : decide (pw < 0) = false := decide_eq_false b6
  by_cases b7 : 300 < pw
  · have q7 : decide (300 < pw) = true := decide_eq_true b7
    have HF := Lib.hid (HN.out (by omega))
    go_enter Tryz.func36, Tryz.ntmps36
    go_wp2_with fail
    go_ret
    exact ⟨ret_bool HF.out, by rw [HW.out]; exact hB⟩
  have q7 : decide (300 < pw) = false := decide_eq_false b7
  cases ha : M.avalid h pat with
  | false =>
    have rav : ∀ w1, Sl 1 icell w1 w1.heap.size A pat → Calls Tryz.prog 53 #[av h A pat.length c] w1 fun e w' => e = .returned (.bool false) ∧ Below w1.heap.size w1 w' := fun w1 hh => by have := rAValid_any h A c pat w1 hh hl; rwa [ha] at this
    have HF := Lib.hid (HA.out ha)
    clear ha
    go_enter Tryz.func36, Tryz.ntmps36
    go_wp2_with fail
    rw [HW.out]
    refine wp_region_kept V.heap.size V (by kernel_rfl) (by kernel_rfl) (Below.refl _ _) ?_
    repeat (go_big_quiet_step ((first | (go_at_call 54; exact Kept.same (rBand_any ch _)) | (go_at_call 53; exact Kept.calls (Nat.le_refl _) (rav _ hS1.kept)))))
    refine wpQuiet_nil ?_
    rintro w1 ⟨⟨_, hb1⟩, rfl⟩
    go_wp2_with fail
    go_ret
    exact ⟨ret_bool HF.out, after_ hB hb1⟩
  | true =>
    have rav : ∀ w1, Sl 1 icell w1 w1.heap.size A pat → Calls Tryz.prog 53 #[av h A pat.length c] w1 fun e w' => e = .returned (.bool true) ∧ Below w1.heap.size w1 w' := fun w1 hh => by have := rAValid_any h A c pat w1 hh hl; rwa [ha] at this
    have HAV := Lib.hid ha
    clear ha
    by_cases e1 : 2 ≤ ch
    · have q20 : decide (2 ≤ ch) = true := decide_eq_true e1
      by_cases e2 : ch ≤ 51
      · have q21 : decide (ch ≤ 51) = true := decide_eq_true e2
        by_cases hb : bd = M.band ch
        · have HF := Lib.hid (HE.out (by omega) (by omega) (by omega) (by omega) (by omega) hb)
          have q : (bd == M.band ch) = true := by simp [hb]
          clear hb
          go_enter Tryz.func36, Tryz.ntmps36
          go_wp2_with fail
          rw [HW.out]
          refine wp_region_kept V.heap.size V (by kernel_rfl) (by kernel_rfl) (Below.refl _ _) ?_
          repeat (go_big_quiet_step ((first | (go_at_call 54; exact Kept.same (rBand_any ch _)) | (go_at_call 53; exact Kept.calls (Nat.le_refl _) (rav _ hS1.kept)))))
          refine wpQuiet_nil ?_
          rintro w1 ⟨⟨_, hb1⟩, rfl⟩
          go_wp2_with fail
          go_ret
          exact ⟨ret_bool (by rw [HF.out, HAV.out]), after_ hB hb1⟩
        · have HF := Lib.hid (HN.out (by omega))
          have q : (bd == M.band ch) = false := by simp [hb]
          clear hb
          go_enter Tryz.func36, Tryz.ntmps36
          go_wp2_with fail
          rw [HW.out]
          refine wp_region_kept V.heap.size V (by kernel_rfl) (by kernel_rfl) (Below.refl _ _) ?_
          repeat (go_big_quiet_step ((first | (go_at_call 54; exact Kept.same (rBand_any ch _)) | (go_at_call 53; exact Kept.calls (Nat.le_refl _) (rav _ hS1.kept)))))
          refine wpQuiet_nil ?_
          rintro w1 ⟨⟨_, hb1⟩, rfl⟩
          go_wp2_with fail
          go_ret
          exact ⟨ret_bool HF.out, after_ hB hb1⟩
      · have HF := Lib.hid (HN.out (by omega))
        have q21 : decide (ch ≤ 51) = false := decide_eq_false e2
        go_enter Tryz.func36, Tryz.ntmps36
        go_wp2_with fail
        rw [HW.out]
        refine wp_region_kept V.heap.size V (by kernel_rfl) (by kernel_rfl) (Below.refl _ _) ?_
        repeat (go_big_quiet_step ((first | (go_at_call 54; exact Kept.same (rBand_any ch _)) | (go_at_call 53; exact Kept.calls (Nat.le_refl _) (rav _ hS1.kept)))))
        refine wpQuiet_nil ?_
        rintro w1 ⟨⟨_, hb1⟩, rfl⟩
        go_wp2_with fail
        go_ret
        exact ⟨ret_bool HF.out, after_ hB hb1⟩
    · have HF := Lib.hid (HN.out (by omega))
      have q20 : decide (2 ≤ ch) = false := decide_eq_false e1
      go_enter Tryz.func36, Tryz.ntmps36
      go_wp2_with fail
      rw [HW.out]
      refine wp_region_kept V.heap.size V (by kernel_rfl) (by kernel_rfl) (Below.refl _ _) ?_
      repeat (go_big_quiet_step ((first | (go_at_call 54; exact Kept.same (rBand_any ch _)) | (go_at_call 53; exact Kept.calls (Nat.le_refl _) (rav _ hS1.kept)))))
      refine wpQuiet_nil ?_
      rintro w1 ⟨⟨_, hb1⟩, rfl⟩
      go_wp2_with fail
      go_ret
      exact ⟨ret_bool HF.out, after_ hB hb1⟩
end Go.Proofs.YtohkbblfcjmmnaaGreatDoor
