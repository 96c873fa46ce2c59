/- A bundle of texts: St, StA, StL. -/
import Derived.Test.YtihepapjopcagaaGreatDoorB10
import Derived.Test.YtihepapjopcagaaGreatDoorB09
import Derived.Deep.RegionHeld3
/- Layer 13: Band and Valid of stations, the program's and the reference's. -/
section
namespace Go.Proofs.YtihepapjopcagaaGreatDoor
open Go Go.RowKit
set_option maxRecDepth 100000

abbrev stc (s : St) (A : Option Addr) (c : Nat) : Array Value := #[.int .i64 s.id, .int .i64 s.x, .int .i64 s.y, .int .i64 s.pw, .int .i64 s.h, .slice A s.pat.length c, .int .i64 s.band, .int .i64 s.ch]
abbrev stv (s : St) (A : Option Addr) (c : Nat) : Value := .agg (stc s A c)

set_option maxHeartbeats 2000000 in
theorem band_any (ch : Int) (w : World) : Calls Tryz.prog 79 #[.int .i64 ch] w fun e w' => e = .returned (.int .i64 (M.band ch)) ∧ w = w' := by
  by_cases b0 : ch < 2
  · have q0 : decide (ch < 2) = true := decide_eq_true b0
    have HF : Hid ((0 : Int) = M.band ch) := Lib.hid (by unfold M.band; repeat' split; all_goals omega)
    go_enter Tryz.func79, Tryz.ntmps79
    go_wp2_with fail
    go_ret
    exact ⟨ret_int HF.out, rfl⟩
  have q0 : decide (ch < 2) = false := decide_eq_false b0
  by_cases b1 : 51 < ch
  · have q1 : decide (51 < ch) = true := decide_eq_true b1
    have HF : Hid ((0 : Int) = M.band ch) := Lib.hid (by unfold M.band; repeat' split; all_goals omega)
    go_enter Tryz.func79, Tryz.ntmps79
    go_wp2_with fail
    go_ret
    exact ⟨ret_int HF.out, rfl⟩
  have q1 : decide (51 < ch) = false := decide_eq_false b1
  by_cases b2 : ch ≤ 6
  · have q2 : decide (ch ≤ 6) = true := decide_eq_true b2
    have HF : Hid ((1 : Int) = M.band ch) := Lib.hid (by unfold M.band; repeat' split; all_goals omega)
    go_enter Tryz.func79, Tryz.ntmps79
    go_wp2_with fail
    go_ret
    exact ⟨ret_int HF.out, rfl⟩
  have q2 : decide (ch ≤ 6) = false := decide_eq_false b2
  by_cases b3 : ch ≤ 13
  · have q3 : decide (ch ≤ 13) = true := decide_eq_true b3
    have HF : Hid ((2 : Int) = M.band ch) := Lib.hid (by unfold M.band; repeat' split; all_goals omega)
    go_enter Tryz.func79, Tryz.ntmps79
    go_wp2_with fail
    go_ret
    exact ⟨ret_int HF.out, rfl⟩
  have q3 : decide (ch ≤ 13) = false := decide_eq_false b3
  have HF : Hid ((3 : Int) = M.band ch) := Lib.hid (by unfold M.band; repeat' split; all_goals omega)
  go_enter Tryz.func79, Tryz.ntmps79
  go_wp2_with fail
  go_ret
  exact ⟨ret_int HF.out, rfl⟩

set_option maxHeartbeats 2000000 in
theorem rBand_any (ch : Int) (w : World) : Calls Tryz.prog 53 #[.int .i64 ch] w fun e w' => e = .returned (.int .i64 (M.band ch)) ∧ w = w' := by
  by_cases b0 : ch < 2
  · have q0 : decide (ch < 2) = true := decide_eq_true b0
    have HF : Hid ((0 : Int) = M.band ch) := Lib.hid (by unfold M.band; repeat' split; all_goals omega)
    go_enter Tryz.func53, Tryz.ntmps53
    go_wp2_with fail
    go_ret
    exact ⟨ret_int HF.out, rfl⟩
  have q0 : decide (ch < 2) = false := decide_eq_false b0
  by_cases b1 : 51 < ch
  · have q1 : decide (51 < ch) = true := decide_eq_true b1
    have HF : Hid ((0 : Int) = M.band ch) := Lib.hid (by unfold M.band; repeat' split; all_goals omega)
    go_enter Tryz.func53, Tryz.ntmps53
    go_wp2_with fail
    go_ret
    exact ⟨ret_int HF.out, rfl⟩
  have q1 : decide (51 < ch) = false := decide_eq_false b1
  by_cases b2 : ch ≤ 6
  · have q2 : decide (ch ≤ 6) = true := decide_eq_true b2
    have HF : Hid ((1 : Int) = M.band ch) := Lib.hid (by unfold M.band; repeat' split; all_goals omega)
    go_enter Tryz.func53, Tryz.ntmps53
    go_wp2_with fail
    go_ret
    exact ⟨ret_int HF.out, rfl⟩
  have q2 : decide (ch ≤ 6) = false := decide_eq_false b2
  by_cases b3 : ch ≤ 13
  · have q3 : decide (ch ≤ 13) = true := decide_eq_true b3
    have HF : Hid ((2 : Int) = M.band ch) := Lib.hid (by unfold M.band; repeat' split; all_goals omega)
    go_enter Tryz.func53, Tryz.ntmps53
    go_wp2_with fail
    go_ret
    exact ⟨ret_int HF.out, rfl⟩
  have q3 : decide (ch ≤ 13) = false := decide_eq_false b3
  have HF : Hid ((3 : Int) = M.band ch) := Lib.hid (by unfold M.band; repeat' split; all_goals omega)
  go_enter Tryz.func53, Tryz.ntmps53
  go_wp2_with fail
  go_ret
  exact ⟨ret_int HF.out, rfl⟩

theorem M.svalid_not {s : St} (h : ¬ ((0 ≤ s.id ∧ s.id ≤ 511) ∧ (0 ≤ s.x ∧ s.x ≤ 63) ∧ (0 ≤ s.y ∧ s.y ≤ 63) ∧ (0 ≤ s.pw ∧ s.pw ≤ 300) ∧ (2 ≤ s.ch ∧ s.ch ≤ 51) ∧ s.band = M.band s.ch)) : M.svalid s = false := by
  cases hv : M.svalid s with
  | false => rfl
  | true => obtain ⟨a, b, c, d, e, f, _⟩ := M.svalid_iff.1 hv; exact absurd ⟨a, b, c, d, e, f⟩ h
theorem M.svalid_eq {s : St} (h1 : 0 ≤ s.id ∧ s.id ≤ 511) (h2 : 0 ≤ s.x ∧ s.x ≤ 63) (h3 : 0 ≤ s.y ∧ s.y ≤ 63) (h4 : 0 ≤ s.pw ∧ s.pw ≤ 300) (h5 : 2 ≤ s.ch ∧ s.ch ≤ 51) (h6 : s.band = M.band s.ch) : M.svalid s = M.avalid s.h s.pat := by
  rw [Bool.eq_iff_iff, M.svalid_iff]
  exact ⟨fun h => h.2.2.2.2.2.2, fun h => ⟨h1, h2, h3, h4, h5, h6, h⟩⟩
theorem M.svalid_av {s : St} (h : M.avalid s.h s.pat = false) : M.svalid s = false := by
  cases hv : M.svalid s with
  | false => rfl
  | true => have := (M.svalid_iff.1 hv).2.2.2.2.2.2; rw [h] at this; cases this

set_option maxHeartbeats 8000000 in
theorem sValid_any (s : St) (A : Option Addr) (c : Nat) (w : World) (hS : Sl 1 icell w w.heap.size A s.pat) (hl : s.pat.length ≤ 9223372036854775806) :
    Calls Tryz.prog 56 #[stv s A c] w fun e w' => e = .returned (.bool (M.svalid s)) ∧ Below w.heap.size w w' := by
  obtain ⟨V, HW, x0, hB, -⟩ := boxes1 w (stc s A c) 34
  have hS1 := (hS.below hB).more hB.size
  have HN : Hid (¬ ((0 ≤ s.id ∧ s.id ≤ 511) ∧ (0 ≤ s.x ∧ s.x ≤ 63) ∧ (0 ≤ s.y ∧ s.y ≤ 63) ∧ (0 ≤ s.pw ∧ s.pw ≤ 300) ∧ (2 ≤ s.ch ∧ s.ch ≤ 51) ∧ s.band = M.band s.ch) → false = M.svalid s) := Lib.hid (fun h => (M.svalid_not h).symm)
  have HE : Hid (0 ≤ s.id ∧ s.id ≤ 511 → 0 ≤ s.x ∧ s.x ≤ 63 → 0 ≤ s.y ∧ s.y ≤ 63 → 0 ≤ s.pw ∧ s.pw ≤ 300 → 2 ≤ s.ch ∧ s.ch ≤ 51 → s.band = M.band s.ch → M.svalid s = M.avalid s.h s.pat) := Lib.hid M.svalid_eq
  have HA : Hid (M.avalid s.h s.pat = false → false = M.svalid s) := Lib.hid (fun h => (M.svalid_av h).symm)
  obtain ⟨id, x, y, pw, h, pat, bd, ch⟩ := s
  simp only at hS1 hl HN HE HA
  generalize M.svalid ⟨id, x, y, pw, h, pat, bd, ch⟩ = r at *
  obtain ⟨c0, c1, c2, c3, c4, c5, c6, c7⟩ := x0.c8
  have l0 := x0.lt
  by_cases b0 : id < 0
  · have q0 : decide (id < 0) = true := decide_eq_true b0
    have HF := Lib.hid (HN.out (by omega))
    go_enter Tryz.func56, Tryz.ntmps56
    go_wp2_with fail
    go_ret
    exact ⟨ret_bool HF.out, by rw [HW.out]; exact hB⟩
  have q0 : decide (id < 0) = false := decide_eq_false b0
  by_cases b1 : 512 ≤ id
  · have q1 : decide (512 ≤ id) = true := decide_eq_true b1
    have HF := Lib.hid (HN.out (by omega))
    go_enter Tryz.func56, Tryz.ntmps56
    go_wp2_with fail
    go_ret
    exact ⟨ret_bool HF.out, by rw [HW.out]; exact hB⟩
  have q1 : decide (512 ≤ id) = false := decide_eq_false b1
  by_cases b2 : x < 0
  · have q2 : decide (x < 0) = true := decide_eq_true b2
    have HF := Lib.hid (HN.out (by omega))
    go_enter Tryz.func56, Tryz.ntmps56
    go_wp2_with fail
    go_ret
    exact ⟨ret_bool HF.out, by rw [HW.out]; exact hB⟩
  have q2 : decide (x < 0) = false := decide_eq_false b2
  by_cases b3 : 64 ≤ x
  · have q3 : decide (64 ≤ x) = true := decide_eq_true b3
    have HF := Lib.hid (HN.out (by omega))
    go_enter Tryz.func56, Tryz.ntmps56
    go_wp2_with fail
    go_ret
    exact ⟨ret_bool HF.out, by rw [HW.out]; exact hB⟩
  have q3 : decide (64 ≤ x) = false := decide_eq_false b3
  by_cases b4 : y < 0
  · have q4 : decide (y < 0) = true := decide_eq_true b4
    have HF := Lib.hid (HN.out (by omega))
    go_enter Tryz.func56, Tryz.ntmps56
    go_wp2_with fail
    go_ret
    exact ⟨ret_bool HF.out, by rw [HW.out]; exact hB⟩
  have q4 : decide (y < 0) = false := decide_eq_false b4
  by_cases b5 : 64 ≤ y
  · have q5 : decide (64 ≤ y) = true := decide_eq_true b5
    have HF := Lib.hid (HN.out (by omega))
    go_enter Tryz.func56, Tryz.ntmps56
    go_wp2_with fail
    go_ret
    exact ⟨ret_bool HF.out, by rw [HW.out]; exact hB⟩
  have q5 : decide (64 ≤ y) = false := decide_eq_false b5
  by_cases b6 : pw < 0
  · have q6 : decide (pw < 0) = true := decide_eq_true b6
    have HF := Lib.hid (HN.out (by omega))
    go_enter Tryz.func56, Tryz.ntmps56
    go_wp2_with fail
    go_ret
    exact ⟨ret_bool HF.out, by rw [HW.out]; exact hB⟩
  have q6 : decide (pw < 0) = false := decide_eq_false b6
  by_cases b7 : 300 < pw
  · have q7 : decide (300 < pw) = true := decide_eq_true b7
    have HF := Lib.hid (HN.out (by omega))
    go_enter Tryz.func56, Tryz.ntmps56
    go_wp2_with fail
    go_ret
    exact ⟨ret_bool HF.out, by rw [HW.out]; exact hB⟩
  have q7 : decide (300 < pw) = false := decide_eq_false b7
  by_cases b8 : ch < 2
  · have q8 : decide (ch < 2) = true := decide_eq_true b8
    have HF := Lib.hid (HN.out (by omega))
    go_enter Tryz.func56, Tryz.ntmps56
    go_wp2_with fail
    go_ret
    exact ⟨ret_bool HF.out, by rw [HW.out]; exact hB⟩
  have q8 : decide (ch < 2) = false := decide_eq_false b8
  by_cases b9 : 51 < ch
  · have q9 : decide (51 < ch) = true := decide_eq_true b9
    have HF := Lib.hid (HN.out (by omega))
    go_enter Tryz.func56, Tryz.ntmps56
    go_wp2_with fail
    go_ret
    exact ⟨ret_bool HF.out, by rw [HW.out]; exact hB⟩
  have q9 : decide (51 < ch) = false := decide_eq_false b9
  by_cases hb : bd = M.band ch
  · have HF := Lib.hid (HE.out (by omega) (by omega) (by omega) (by omega) (by omega) hb)
    have q : (bd == M.band ch) = true := by simp [hb]
    clear hb
    go_enter Tryz.func56, Tryz.ntmps56
    go_wp2_with fail
    rw [HW.out]
    refine wp_region_kept V.heap.size V (by kernel_rfl) (by kernel_rfl) (Below.refl _ _) ?_
    repeat (go_big_quiet_step ((first | (go_at_call 79; exact Kept.same (band_any ch _)) | (go_at_call 80; exact Kept.calls (Nat.le_refl _) (aValid_any h A c pat _ hS1.kept hl)))))
    refine wpQuiet_nil ?_
    rintro w1 ⟨⟨_, hb1⟩, rfl⟩
    go_wp2_with fail
    go_ret
    exact ⟨ret_bool HF.out.symm, after_ hB hb1⟩
  · have HF := Lib.hid (HN.out (by omega))
    have q : (bd == M.band ch) = false := by simp [hb]
    clear hb
    go_enter Tryz.func56, Tryz.ntmps56
    go_wp2_with fail
    rw [HW.out]
    refine wp_region_kept V.heap.size V (by kernel_rfl) (by kernel_rfl) (Below.refl _ _) ?_
    repeat (go_big_quiet_step ((first | (go_at_call 79; exact Kept.same (band_any ch _)) | (go_at_call 80; exact Kept.calls (Nat.le_refl _) (aValid_any h A c pat _ hS1.kept hl)))))
    refine wpQuiet_nil ?_
    rintro w1 ⟨⟨_, hb1⟩, rfl⟩
    go_wp2_with fail
    go_ret
    exact ⟨ret_bool HF.out, after_ hB hb1⟩

set_option maxHeartbeats 8000000 in
theorem rSValid_any (s : St) (A : Option Addr) (c : Nat) (w : World) (hS : Sl 1 icell w w.heap.size A s.pat) (hl : s.pat.length ≤ 9223372036854775806) :
    Calls Tryz.prog 43 #[stv s A c] w fun e w' => e = .returned (.bool (M.svalid s)) ∧ Below w.heap.size w w' := by
  obtain ⟨V, HW, x0, hB, -⟩ := boxes1 w (stc s A c) 34
  have hS1 := (hS.below hB).more hB.size
  have HN : Hid (¬ ((0 ≤ s.id ∧ s.id ≤ 511) ∧ (0 ≤ s.x ∧ s.x ≤ 63) ∧ (0 ≤ s.y ∧ s.y ≤ 63) ∧ (0 ≤ s.pw ∧ s.pw ≤ 300) ∧ (2 ≤ s.ch ∧ s.ch ≤ 51) ∧ s.band = M.band s.ch) → false = M.svalid s) := Lib.hid (fun h => (M.svalid_not h).symm)
  have HE : Hid (0 ≤ s.id ∧ s.id ≤ 511 → 0 ≤ s.x ∧ s.x ≤ 63 → 0 ≤ s.y ∧ s.y ≤ 63 → 0 ≤ s.pw ∧ s.pw ≤ 300 → 2 ≤ s.ch ∧ s.ch ≤ 51 → s.band = M.band s.ch → M.svalid s = M.avalid s.h s.pat) := Lib.hid M.svalid_eq
  have HA : Hid (M.avalid s.h s.pat = false → false = M.svalid s) := Lib.hid (fun h => (M.svalid_av h).symm)
  obtain ⟨id, x, y, pw, h, pat, bd, ch⟩ := s
  simp only at hS1 hl HN HE HA
  generalize M.svalid ⟨id, x, y, pw, h, pat, bd, ch⟩ = r at *
  obtain ⟨c0, c1, c2, c3, c4, c5, c6, c7⟩ := x0.c8
  have l0 := x0.lt
  by_cases b0 : id < 0
  · have q0 : decide (id < 0) = true := decide_eq_true b0
    have HF := Lib.hid (HN.out (by omega))
    go_enter Tryz.func43, Tryz.ntmps43
    go_wp2_with fail
    go_ret
    exact ⟨ret_bool HF.out, by rw [HW.out]; exact hB⟩
  have q0 : decide (id < 0) = false := decide_eq_false b0
  by_cases b1 : 511 < id
  · have q1 : decide (511 < id) = true := decide_eq_true b1
    have HF := Lib.hid (HN.out (by omega))
    go_enter Tryz.func43, Tryz.ntmps43
    go_wp2_with fail
    go_ret
    exact ⟨ret_bool HF.out, by rw [HW.out]; exact hB⟩
  have q1 : decide (511 < id) = false := decide_eq_false b1
  by_cases b2 : x < 0
  · have q2 : decide (x < 0) = true := decide_eq_true b2
    have HF := Lib.hid (HN.out (by omega))
    go_enter Tryz.func43, Tryz.ntmps43
    go_wp2_with fail
    go_ret
    exact ⟨ret_bool HF.out, by rw [HW.out]; exact hB⟩
  have q2 : decide (x < 0) = false := decide_eq_false b2
  by_cases b3 : 63 < x
  · have q3 : decide (63 < x) = true := decide_eq_true b3
    have HF := Lib.hid (HN.out (by omega))
    go_enter Tryz.func43, Tryz.ntmps43
    go_wp2_with fail
    go_ret
    exact ⟨ret_bool HF.out, by rw [HW.out]; exact hB⟩
  have q3 : decide (63 < x) = false := decide_eq_false b3
  by_cases b4 : y < 0
  · have q4 : decide (y < 0) = true := decide_eq_true b4
    have HF := Lib.hid (HN.out (by omega))
    go_enter Tryz.func43, Tryz.ntmps43
    go_wp2_with fail
    go_ret
    exact ⟨ret_bool HF.out, by rw [HW.out]; exact hB⟩
  have q4 : decide (y < 0) = false := decide_eq_false b4
  by_cases b5 : 63 < y
  · have q5 : decide (63 < y) = true := decide_eq_true b5
    have HF := Lib.hid (HN.out (by omega))
    go_enter Tryz.func43, Tryz.ntmps43
    go_wp2_with fail
    go_ret
    exact ⟨ret_bool HF.out, by rw [HW.out]; exact hB⟩
  have q5 : decide (63 < y) = false := decide_eq_false b5
  by_cases b6 : pw < 0
  · have q6 : decide (pw < 0) = true := decide_eq_true b6
    have HF := Lib.hid (HN.out (by omega))
    go_enter Tryz.func43, Tryz.ntmps43
    go_wp2_with fail
    go_ret
    exact ⟨ret_bool HF.out, by rw [HW.out]; exact hB⟩
  have q6 : decide (pw < 0) = false := decide_eq_false b6
  by_cases b7 : 300 < pw
  · have q7 : decide (300 < pw) = true := decide_eq_true b7
    have HF := Lib.hid (HN.out (by omega))
    go_enter Tryz.func43, Tryz.ntmps43
    go_wp2_with fail
    go_ret
    exact ⟨ret_bool HF.out, by rw [HW.out]; exact hB⟩
  have q7 : decide (300 < pw) = false := decide_eq_false b7
  cases ha : M.avalid h pat with
  | false =>
    have rav : ∀ w1, Sl 1 icell w1 w1.heap.size A pat → Calls Tryz.prog 66 #[av h A pat.length c] w1 fun e w' => e = .returned (.bool false) ∧ Below w1.heap.size w1 w' := fun w1 hh => by have := rAValid_any h A c pat w1 hh hl; rwa [ha] at this
    have HF := Lib.hid (HA.out ha)
    clear ha
    go_enter Tryz.func43, Tryz.ntmps43
    go_wp2_with fail
    rw [HW.out]
    refine wp_region_kept V.heap.size V (by kernel_rfl) (by kernel_rfl) (Below.refl _ _) ?_
    repeat (go_big_quiet_step ((first | (go_at_call 53; exact Kept.same (rBand_any ch _)) | (go_at_call 66; exact Kept.calls (Nat.le_refl _) (rav _ hS1.kept)))))
    refine wpQuiet_nil ?_
    rintro w1 ⟨⟨_, hb1⟩, rfl⟩
    go_wp2_with fail
    go_ret
    exact ⟨ret_bool HF.out, after_ hB hb1⟩
  | true =>
    have rav : ∀ w1, Sl 1 icell w1 w1.heap.size A pat → Calls Tryz.prog 66 #[av h A pat.length c] w1 fun e w' => e = .returned (.bool true) ∧ Below w1.heap.size w1 w' := fun w1 hh => by have := rAValid_any h A c pat w1 hh hl; rwa [ha] at this
    have HAV := Lib.hid ha
    clear ha
    by_cases e1 : 2 ≤ ch
    · have q20 : decide (2 ≤ ch) = true := decide_eq_true e1
      by_cases e2 : ch ≤ 51
      · have q21 : decide (ch ≤ 51) = true := decide_eq_true e2
        by_cases hb : bd = M.band ch
        · have HF := Lib.hid (HE.out (by omega) (by omega) (by omega) (by omega) (by omega) hb)
          have q : (bd == M.band ch) = true := by simp [hb]
          clear hb
          go_enter Tryz.func43, Tryz.ntmps43
          go_wp2_with fail
          rw [HW.out]
          refine wp_region_kept V.heap.size V (by kernel_rfl) (by kernel_rfl) (Below.refl _ _) ?_
          repeat (go_big_quiet_step ((first | (go_at_call 53; exact Kept.same (rBand_any ch _)) | (go_at_call 66; exact Kept.calls (Nat.le_refl _) (rav _ hS1.kept)))))
          refine wpQuiet_nil ?_
          rintro w1 ⟨⟨_, hb1⟩, rfl⟩
          go_wp2_with fail
          go_ret
          exact ⟨ret_bool (by rw [HF.out, HAV.out]), after_ hB hb1⟩
        · have HF := Lib.hid (HN.out (by omega))
          have q : (bd == M.band ch) = false := by simp [hb]
          clear hb
          go_enter Tryz.func43, Tryz.ntmps43
          go_wp2_with fail
          rw [HW.out]
          refine wp_region_kept V.heap.size V (by kernel_rfl) (by kernel_rfl) (Below.refl _ _) ?_
          repeat (go_big_quiet_step ((first | (go_at_call 53; exact Kept.same (rBand_any ch _)) | (go_at_call 66; exact Kept.calls (Nat.le_refl _) (rav _ hS1.kept)))))
          refine wpQuiet_nil ?_
          rintro w1 ⟨⟨_, hb1⟩, rfl⟩
          go_wp2_with fail
          go_ret
          exact ⟨ret_bool HF.out, after_ hB hb1⟩
      · have HF := Lib.hid (HN.out (by omega))
        have q21 : decide (ch ≤ 51) = false := decide_eq_false e2
        go_enter Tryz.func43, Tryz.ntmps43
        go_wp2_with fail
        rw [HW.out]
        refine wp_region_kept V.heap.size V (by kernel_rfl) (by kernel_rfl) (Below.refl _ _) ?_
        repeat (go_big_quiet_step ((first | (go_at_call 53; exact Kept.same (rBand_any ch _)) | (go_at_call 66; exact Kept.calls (Nat.le_refl _) (rav _ hS1.kept)))))
        refine wpQuiet_nil ?_
        rintro w1 ⟨⟨_, hb1⟩, rfl⟩
        go_wp2_with fail
        go_ret
        exact ⟨ret_bool HF.out, after_ hB hb1⟩
    · have HF := Lib.hid (HN.out (by omega))
      have q20 : decide (2 ≤ ch) = false := decide_eq_false e1
      go_enter Tryz.func43, Tryz.ntmps43
      go_wp2_with fail
      rw [HW.out]
      refine wp_region_kept V.heap.size V (by kernel_rfl) (by kernel_rfl) (Below.refl _ _) ?_
      repeat (go_big_quiet_step ((first | (go_at_call 53; exact Kept.same (rBand_any ch _)) | (go_at_call 66; exact Kept.calls (Nat.le_refl _) (rav _ hS1.kept)))))
      refine wpQuiet_nil ?_
      rintro w1 ⟨⟨_, hb1⟩, rfl⟩
      go_wp2_with fail
      go_ret
      exact ⟨ret_bool HF.out, after_ hB hb1⟩
end Go.Proofs.YtihepapjopcagaaGreatDoor
end

section
/- Layer 13: Equal and Copy of stations, the program's and the reference's; the reference's Cell. -/
namespace Go.Proofs.YtihepapjopcagaaGreatDoor
open Go Go.RowKit
set_option maxRecDepth 100000

/-- A call that returns a station whose pattern is the call's own. -/
def RetSt (w : World) (s : St) (e : Ending) (w' : World) : Prop :=
  ∃ A c, e = .returned (stv s A c) ∧ w'.ownsRow w.heap.size 3 1 (.slice A s.pat.length c) s.pat.length (flat 1 icell s.pat) ∧ Below w.heap.size w w'

end Go.Proofs.YtihepapjopcagaaGreatDoor
namespace Go.Proofs.YtihepapjopcagaaGreatDoor
open Go Go.RowKit
set_option maxHeartbeats 4000000 in
theorem rSCopy_ok (s : St) (A : Option Addr) (c : Nat) (w : World) (hS : Sl 1 icell w w.heap.size A s.pat) (hl : s.pat.length ≤ 1000) :
    Calls Tryz.prog 23 #[stv s A c] w (RetSt w s) := by
  obtain ⟨V, HW, x0, x1, hB, hs⟩ := boxes2 w (stc s A c) 34 #[.int .i64 0, .int .i64 0, .int .i64 0, .int .i64 0, .int .i64 0, .slice none 0 0, .int .i64 0, .int .i64 0] 34
  have hS1 := (hS.below hB).more hB.size
  have HS := Lib.hid hs
  clear hs
  obtain ⟨id, x, y, pw, h, pat, bd, ch⟩ := s
  simp only at hS1 hl
  have S1 : Sl 1 icell V.drew V.drew.heap.size A pat := hS1.drew
  have X0 : Box V.drew w.heap.size (stc ⟨id, x, y, pw, h, pat, bd, ch⟩ A c) 34 := x0
  have X1 : Box V.drew (w.heap.size + 1) #[.int .i64 0, .int .i64 0, .int .i64 0, .int .i64 0, .int .i64 0, .slice none 0 0, .int .i64 0, .int .i64 0] 34 := x1
  have hne : w.heap.size ≠ w.heap.size + 1 := by omega
  have BV : Below w.heap.size w V.drew := hB.drew
  go_enter Tryz.func23, Tryz.ntmps23
  go_wp2_with fail
  rw [HW.out]
  go_region_held3 (fun w' => w'.cell? ⟨w.heap.size, 0, none⟩ = some (.int .i64 id) ∧ w'.cell? ⟨w.heap.size, 1, none⟩ = some (.int .i64 x) ∧ w'.cell? ⟨w.heap.size, 2, none⟩ = some (.int .i64 y) ∧ w'.cell? ⟨w.heap.size, 3, none⟩ = some (.int .i64 pw) ∧ w'.cell? ⟨w.heap.size, 4, none⟩ = some (.int .i64 h) ∧ w'.cell? ⟨w.heap.size, 5, none⟩ = some (.slice A pat.length c) ∧ w'.cell? ⟨w.heap.size, 6, none⟩ = some (.int .i64 bd) ∧ w'.cell? ⟨w.heap.size, 7, none⟩ = some (.int .i64 ch)) (first | with_reducible exact X0.c8 | with_reducible exact x0.c8 | with_reducible exact (X0.below hb1).c8 | exact (((((((((X0.below hb1).set_other (p := ⟨w.heap.size + 1, 0, none⟩) hne _).set_other (p := ⟨w.heap.size + 1, 1, none⟩) hne _).set_other (p := ⟨w.heap.size + 1, 2, none⟩) hne _).set_other (p := ⟨w.heap.size + 1, 3, none⟩) hne _).set_other (p := ⟨w.heap.size + 1, 4, none⟩) hne _).set_other (p := ⟨w.heap.size + 1, 5, none⟩) hne _).set_other (p := ⟨w.heap.size + 1, 6, none⟩) hne _).set_other (p := ⟨w.heap.size + 1, 7, none⟩) hne _).c8) ((go_at_call 46; ((with_reducible refine (rACopy_ok h A c pat _ S1 hl).mono ?_); rintro e w1 ⟨A1, c1, rfl, hown, hb1⟩; have y1 := X1.below hb1; obtain ⟨d0, d1, d2, d3, d4, d5, d6, d7⟩ := y1.c8; have f0 := y1.frozen 0; have f1 := y1.frozen 1; have f2 := y1.frozen 2; have f3 := y1.frozen 3; have f4 := y1.frozen 4; have f5 := y1.frozen 5; have f6 := y1.frozen 6; have f7 := y1.frozen 7)))
  all_goals
    go_wp2_with fail
    refine bodyPost_ret (v := stv ⟨id, x, y, pw, h, pat, bd, ch⟩ A1 c1) ?_ rfl ⟨A1, c1, rfl, ?_, ?_⟩
    · simp [results, Tryz.results23, go_sem, d0, d1, d2, d3, d4, d5, d6, d7]
    · have hown2 : w1.ownsRow (w.heap.size + 2) 3 1 (.slice A1 pat.length c1) pat.length (flat 1 icell pat) := by rw [← HS.out]; exact hown
      refine own_base (base := w.heap.size + 2) ?_ (by omega)
      iterate 8 refine ownsRow_setCell_below ?_ (by dsimp only; omega) _
      exact hown2
    · iterate 8 refine Below.setCell ?_ (by dsimp only; omega) _
      exact after_ BV hb1

set_option maxHeartbeats 1000000 in
theorem rCell_any (s : St) (A : Option Addr) (c : Nat) (w : World) : Calls Tryz.prog 25 #[stv s A c] w fun e w' => e = .returned (cv s.x s.y) ∧ Below w.heap.size w w' := by
  obtain ⟨id, x, y, pw, h, pat, bd, ch⟩ := s
  go_enter Tryz.func25, Tryz.ntmps25
  go_wp2_with fail
  exact bodyPost_ret (v := cv x y) (by simp [results, Tryz.results25, go_sem]) rfl ⟨rfl, ((Below.refl w.heap.size w).alloc (Nat.le_refl _) _).alloc (by simp) _⟩
end Go.Proofs.YtihepapjopcagaaGreatDoor

/- Layer 13: Field; the reference's Field and Allowed. -/
namespace Go.Proofs.YtihepapjopcagaaGreatDoor
open Go Go.RowKit
set_option maxRecDepth 100000

def M.okF (W H : Int) (G P : List Int) (s : St) (cx cy : Int) : Bool := M.svalid s && M.okObs W H G P s.x s.y s.h cx cy 10
def M.field (W : Int) (G : List Int) (s : St) (cx cy : Int) : Int := s.pw - M.aloss s.pat (cx - s.x) (cy - s.y) - M.tot W G s.x s.y s.h cx cy 10
theorem M.tot_bd {W H : Int} {G P : List Int} {ax ay f bx by' t : Int} (hok : M.okObs W H G P ax ay f bx by' t = true) : 0 ≤ M.tot W G ax ay f bx by' t ∧ M.tot W G ax ay f bx by' t ≤ 600 := by
  obtain ⟨-, -, hv, hia, hib⟩ := M.okObs_iff.1 hok
  obtain ⟨t1, t2, -⟩ := M.tvalid_iff.1 hv
  obtain ⟨a1, a2⟩ := M.c63_of t1 t2 hia
  obtain ⟨b1, b2⟩ := M.c63_of t1 t2 hib
  have := M.sq_bd a1 a2 b1 b2
  have := M.free_bd (n := (M.sq ax ay bx by').toNat) (by omega)
  unfold M.tot
  omega
theorem M.okF_dx {W H : Int} {G P : List Int} {s : St} {cx cy : Int} (h : M.okObs W H G P s.x s.y s.h cx cy 10 = true) : (-100 ≤ cx - s.x ∧ cx - s.x ≤ 100) ∧ (-100 ≤ cy - s.y ∧ cy - s.y ≤ 100) := by
  obtain ⟨-, -, hv, hia, hib⟩ := M.okObs_iff.1 h
  obtain ⟨t1, t2, -⟩ := M.tvalid_iff.1 hv
  obtain ⟨a1, a2⟩ := M.c63_of t1 t2 hia
  obtain ⟨b1, b2⟩ := M.c63_of t1 t2 hib
  unfold M.c63 at *
  omega

set_option maxHeartbeats 8000000 in
theorem field_ok (W H : Int) (GA PA : Option Addr) (gc pc : Nat) (G P : List Int) (s : St) (A : Option Addr) (c : Nat) (cx cy : Int) (w : World) (ht : Tab w) (hg : Sl 1 icell w w.heap.size GA G) (hp : Sl 1 icell w w.heap.size PA P) (hS : Sl 1 icell w w.heap.size A s.pat)
    (hok : M.okF W H G P s cx cy = true) : Calls Tryz.prog 42 #[tv W H GA PA G.length gc P.length pc, stv s A c, cv cx cy] w fun e w' => e = .returned (.tuple #[.int .i64 (M.field W G s cx cy), .int .i64 0]) ∧ Below w.heap.size w w' := by
  obtain ⟨V, HW, x0, x1, x2, hB, -⟩ := boxes3 w #[.int .i64 W, .int .i64 H, .slice GA G.length gc, .slice PA P.length pc] 30 (stc s A c) 34 #[.int .i64 cx, .int .i64 cy] 36
  have hg1 := (hg.below hB).more hB.size
  have hp1 := (hp.below hB).more hB.size
  have hS1 := (hS.below hB).more hB.size
  unfold M.okF at hok
  rw [Bool.and_eq_true] at hok
  obtain ⟨hv, hok⟩ := hok
  have HV := Lib.hid hv
  have HO := Lib.hid hok
  obtain ⟨-, h2, h3, h4, -, -, hav⟩ := M.svalid_iff.1 hv
  have HAV := Lib.hid hav
  have hal := (M.avalid_iff.1 hav).2.1
  have halb := M.aloss_bd (M.avalid_iff.1 hav).2.2 (cx - s.x) (cy - s.y)
  have htb := M.tot_bd hok
  obtain ⟨dx1, dx2⟩ := M.okF_dx hok
  have hl : s.pat.length ≤ 16 := by omega
  have HF : Hid (M.field W G s cx cy = s.pw - M.aloss s.pat (cx - s.x) (cy - s.y) - M.tot W G s.x s.y s.h cx cy 10) := Lib.hid rfl
  clear hv hok hav hal
  go_enter Tryz.func42, Tryz.ntmps42
  go_wp2_with fail
  rw [HW.out]
  refine (sValid_any s A c V hS1 (by omega)).mono ?_
  rintro e w1 ⟨rfl, hb1⟩
  rw [HV.out]
  have B1 := after_ hB hb1
  have y0 := x0.below hb1
  have y1 := x1.below hb1
  have y2 := x2.below hb1
  have hg2 := (hg1.below hb1).more hb1.size
  have hp2 := (hp1.below hb1).more hb1.size
  have hS2 := (hS1.below hb1).more hb1.size
  obtain ⟨U, HU, u0, hBU, -⟩ := boxes1 w1 #[.int .i64 s.x, .int .i64 s.y] 36
  have BU := after_ B1 hBU
  have z0 := y0.below hBU
  have z1 := y1.below hBU
  have z2 := y2.below hBU
  have hg3 := (hg2.below hBU).more hBU.size
  have hp3 := (hp2.below hBU).more hBU.size
  have hS3 := (hS2.below hBU).more hBU.size
  obtain ⟨a0, a1, a2, a3, a4, a5, a6, a7⟩ := y1.c8
  obtain ⟨c0, c1, c2, c3⟩ := z0.c4
  obtain ⟨b0, b1, b2, b3, b4, b5, b6, b7⟩ := z1.c8
  obtain ⟨d0, d1⟩ := z2.c2
  obtain ⟨e0, e1⟩ := u0.c2
  have hU := HU.out
  clear x0 x1 x2 hg1 hp1 hS1
  go_wp2_with fail
  clear hU
  refine (total_ok W H GA PA gc pc G P s.x s.y s.h cx cy 10 U hg3 hp3 HO.out).mono ?_
  rintro e w2 ⟨rfl, hb2⟩
  have B2 := after_ BU hb2
  clear a0 a1 a2 a3 a4 a5 a6 a7 b0 b1 b2 b3 b4 b5 b6 b7 c0 c1 c2 c3 d0 d1 e0 e1
  obtain ⟨b0, b1, b2, b3, b4, b5, b6, b7⟩ := (z1.below hb2).c8
  obtain ⟨d0, d1⟩ := (z2.below hb2).c2
  have hS4 := (hS3.below hb2).more hb2.size
  go_wp2_with fail
  refine (aLoss_ok s.h A c s.pat (cx - s.x) (cy - s.y) w2 (ht.kept B2) hS4 HAV.out dx1 dx2).mono ?_
  rintro e w3 ⟨rfl, hb3⟩
  have B3 := after_ B2 hb3
  clear b0 b1 b2 b3 b4 b5 b6 b7 d0 d1
  obtain ⟨b0, b1, b2, b3, b4, b5, b6, b7⟩ := ((z1.below hb2).below hb3).c8
  generalize M.aloss s.pat (cx - s.x) (cy - s.y) = al at *
  generalize M.tot W G s.x s.y s.h cx cy 10 = to at *
  go_wp2_with fail
  go_ret2
  exact ⟨ret_int2 HF.out.symm rfl, B3⟩

set_option maxHeartbeats 8000000 in
theorem field_no (W H : Int) (GA PA : Option Addr) (gc pc : Nat) (G P : List Int) (s : St) (A : Option Addr) (c : Nat) (cx cy : Int) (w : World) (hg : Sl 1 icell w w.heap.size GA G) (hp : Sl 1 icell w w.heap.size PA P) (hS : Sl 1 icell w w.heap.size A s.pat)
    (hgl : G.length ≤ 9223372036854775806) (hpl : P.length ≤ 9223372036854775806) (hl : s.pat.length ≤ 9223372036854775806)
    (hok : M.okF W H G P s cx cy = false) : Calls Tryz.prog 42 #[tv W H GA PA G.length gc P.length pc, stv s A c, cv cx cy] w fun e w' => e = .returned (.tuple #[.int .i64 0, .int .i64 2]) ∧ Below w.heap.size w w' := by
  obtain ⟨V, HW, x0, x1, x2, hB, -⟩ := boxes3 w #[.int .i64 W, .int .i64 H, .slice GA G.length gc, .slice PA P.length pc] 30 (stc s A c) 34 #[.int .i64 cx, .int .i64 cy] 36
  have hg1 := (hg.below hB).more hB.size
  have hp1 := (hp.below hB).more hB.size
  have hS1 := (hS.below hB).more hB.size
  unfold M.okF at hok
  have HK := Lib.hid hok
  clear hok
  go_enter Tryz.func42, Tryz.ntmps42
  go_wp2_with fail
  rw [HW.out]
  refine (sValid_any s A c V hS1 hl).mono ?_
  rintro e w1 ⟨rfl, hb1⟩
  have B1 := after_ hB hb1
  cases hv : M.svalid s with
  | false =>
    go_wp2_with fail
    go_ret2
    exact ⟨rfl, B1⟩
  | true =>
    have HO : Hid (M.okObs W H G P s.x s.y s.h cx cy 10 = false) := Lib.hid (by have := HK.out; rw [hv, Bool.true_and] at this; exact this)
    have y0 := x0.below hb1
    have y1 := x1.below hb1
    have y2 := x2.below hb1
    have hg2 := (hg1.below hb1).more hb1.size
    have hp2 := (hp1.below hb1).more hb1.size
    obtain ⟨U, HU, u0, hBU, -⟩ := boxes1 w1 #[.int .i64 s.x, .int .i64 s.y] 36
    have BU := after_ B1 hBU
    have z0 := y0.below hBU
    have z1 := y1.below hBU
    have z2 := y2.below hBU
    have hg3 := (hg2.below hBU).more hBU.size
    have hp3 := (hp2.below hBU).more hBU.size
    obtain ⟨a0, a1, a2, a3, a4, a5, a6, a7⟩ := y1.c8
    obtain ⟨c0, c1, c2, c3⟩ := z0.c4
    obtain ⟨b0, b1, b2, b3, b4, b5, b6, b7⟩ := z1.c8
    obtain ⟨d0, d1⟩ := z2.c2
    obtain ⟨e0, e1⟩ := u0.c2
    have hU := HU.out
    clear x0 x1 x2 hg1 hp1 hS1
    go_wp2_with fail
    clear hU
    refine (total_no W H GA PA gc pc G P s.x s.y s.h cx cy 10 U hg3 hp3 hgl hpl HO.out).mono ?_
    rintro e w2 ⟨rfl, hb2⟩
    go_wp2_with fail
    go_ret2
    exact ⟨rfl, after_ BU hb2⟩
end Go.Proofs.YtihepapjopcagaaGreatDoor

/- Layer 13: the reference's Field and Allowed. -/
namespace Go.Proofs.YtihepapjopcagaaGreatDoor
open Go Go.RowKit
set_option maxRecDepth 100000

set_option maxHeartbeats 8000000 in
theorem rField_ok (W H : Int) (GA PA : Option Addr) (gc pc : Nat) (G P : List Int) (s : St) (A : Option Addr) (c : Nat) (cx cy : Int) (w : World) (hg : Sl 1 icell w w.heap.size GA G) (hS : Sl 1 icell w w.heap.size A s.pat)
    (hok : M.okF W H G P s cx cy = true) : Calls Tryz.prog 44 #[tv W H GA PA G.length gc P.length pc, stv s A c, cv cx cy] w fun e w' => e = .returned (.int .i64 (M.field W G s cx cy)) ∧ Below w.heap.size w w' := by
  obtain ⟨V, HW, x0, x1, x2, hB, -⟩ := boxes3 w #[.int .i64 W, .int .i64 H, .slice GA G.length gc, .slice PA P.length pc] 30 (stc s A c) 34 #[.int .i64 cx, .int .i64 cy] 36
  have hg1 := (hg.below hB).more hB.size
  have hS1 := (hS.below hB).more hB.size
  unfold M.okF at hok
  rw [Bool.and_eq_true] at hok
  obtain ⟨hv, hok⟩ := hok
  have HO := Lib.hid hok
  obtain ⟨-, h2, h3, h4, -, -, hav⟩ := M.svalid_iff.1 hv
  have HAV := Lib.hid hav
  have halb := M.aloss_bd (M.avalid_iff.1 hav).2.2 (cx - s.x) (cy - s.y)
  have htb := M.tot_bd hok
  obtain ⟨dx1, dx2⟩ := M.okF_dx hok
  have HF : Hid (M.field W G s cx cy = s.pw - M.aloss s.pat (cx - s.x) (cy - s.y) - M.tot W G s.x s.y s.h cx cy 10) := Lib.hid rfl
  clear hv hok hav
  obtain ⟨c0, c1, c2, c3⟩ := x0.c4
  obtain ⟨b0, b1, b2, b3, b4, b5, b6, b7⟩ := x1.c8
  obtain ⟨d0, d1⟩ := x2.c2
  have l0 := x0.lt
  have l1 := x1.lt
  have l2 := x2.lt
  have kA : Hid (∀ w1, Sl 1 icell w1 w1.heap.size A s.pat → Calls Tryz.prog 67 #[av s.h A s.pat.length c, .int .i64 (cx - s.x), .int .i64 (cy - s.y)] w1 fun e w' => e = .returned (.int .i64 (M.aloss s.pat (cx - s.x) (cy - s.y))) ∧ Below w1.heap.size w1 w') := Lib.hid (fun w1 hh => rALoss_ok s.h A c s.pat (cx - s.x) (cy - s.y) w1 hh HAV.out dx1 dx2)
  have kT : Hid (∀ w1, Sl 1 icell w1 w1.heap.size GA G → Calls Tryz.prog 68 #[tv W H GA PA G.length gc P.length pc, cv s.x s.y, .int .i64 s.h, cv cx cy, .int .i64 10] w1 fun e w' => e = .returned (.int .i64 (M.tot W G s.x s.y s.h cx cy 10)) ∧ Below w1.heap.size w1 w') := Lib.hid (fun w1 hh => rTotal_ok W H GA PA gc pc G P s.x s.y s.h cx cy 10 w1 hh HO.out)
  go_enter Tryz.func44, Tryz.ntmps44
  go_wp2_with fail
  rw [HW.out]
  refine wp_region_kept V.heap.size V (by kernel_rfl) (by kernel_rfl) (Below.refl _ _) ?_
  repeat (go_big_quiet_step ((first | (go_at_call 67; exact Kept.calls (Nat.le_refl _) (kA.out _ hS1.kept)) | (go_at_call 25; exact Kept.calls (Nat.le_refl _) (rCell_any s A c _)) | (go_at_call 68; exact Kept.calls (Nat.le_refl _) (kT.out _ hg1.kept)))))
  refine wpQuiet_nil ?_
  rintro w1 ⟨⟨_, hb1⟩, rfl⟩
  go_wp2_with fail
  go_ret
  exact ⟨ret_int HF.out.symm, after_ hB hb1⟩

theorem M.okF_eq {W H : Int} {G P : List Int} {s : St} {cx cy : Int} : M.okF W H G P s cx cy = (M.svalid s && M.has W H G P s.x s.y && M.has W H G P cx cy) := by
  rw [Bool.eq_iff_iff]
  unfold M.okF M.has
  simp only [Bool.and_eq_true]
  constructor
  · rintro ⟨hv, ho⟩
    obtain ⟨_, _, a, b, c⟩ := M.okObs_iff.1 ho
    exact ⟨⟨hv, a, b⟩, a, c⟩
  · rintro ⟨⟨hv, a, b⟩, _, c⟩
    have := (M.avalid_iff.1 (M.svalid_iff.1 hv).2.2.2.2.2.2).1
    exact ⟨hv, M.okObs_iff.2 ⟨by omega, by omega, a, b, c⟩⟩

set_option maxHeartbeats 8000000 in
theorem rAllowed_any (W H : Int) (GA PA : Option Addr) (gc pc : Nat) (G P : List Int) (s : St) (A : Option Addr) (c : Nat) (cx cy : Int) (w : World) (hg : Sl 1 icell w w.heap.size GA G) (hp : Sl 1 icell w w.heap.size PA P) (hS : Sl 1 icell w w.heap.size A s.pat)
    (hgl : G.length ≤ 9223372036854775806) (hl : s.pat.length ≤ 9223372036854775806) :
    Calls Tryz.prog 15 #[tv W H GA PA G.length gc P.length pc, stv s A c, cv cx cy] w fun e w' => e = .returned (.bool (M.okF W H G P s cx cy)) ∧ Below w.heap.size w w' := by
  obtain ⟨V, HW, x0, x1, x2, hB, -⟩ := boxes3 w #[.int .i64 W, .int .i64 H, .slice GA G.length gc, .slice PA P.length pc] 30 (stc s A c) 34 #[.int .i64 cx, .int .i64 cy] 36
  have hg1 := (hg.below hB).more hB.size
  have hp1 := (hp.below hB).more hB.size
  have hS1 := (hS.below hB).more hB.size
  obtain ⟨c0, c1, c2, c3⟩ := x0.c4
  obtain ⟨b0, b1, b2, b3, b4, b5, b6, b7⟩ := x1.c8
  obtain ⟨d0, d1⟩ := x2.c2
  have l0 := x0.lt
  have l1 := x1.lt
  have l2 := x2.lt
  obtain ⟨p, hp'⟩ : ∃ p, M.svalid s = p := ⟨_, rfl⟩
  obtain ⟨q, hq'⟩ : ∃ q, M.has W H G P s.x s.y = q := ⟨_, rfl⟩
  obtain ⟨r, hr'⟩ : ∃ r, M.has W H G P cx cy = r := ⟨_, rfl⟩
  rw [M.okF_eq, hp', hq', hr']
  have kV : Hid (∀ w1, Sl 1 icell w1 w1.heap.size A s.pat → Calls Tryz.prog 43 #[stv s A c] w1 fun e w' => e = .returned (.bool p) ∧ Below w1.heap.size w1 w') := Lib.hid (fun w1 hh => by rw [← hp']; exact rSValid_any s A c w1 hh hl)
  have kH : Hid (∀ w1, Sl 1 icell w1 w1.heap.size GA G → Sl 1 icell w1 w1.heap.size PA P → Calls Tryz.prog 28 #[tv W H GA PA G.length gc P.length pc, cv s.x s.y] w1 fun e w' => e = .returned (.bool q) ∧ Below w1.heap.size w1 w') := Lib.hid (fun w1 hh hk => by rw [← hq']; exact rHas_any W H GA PA gc pc G P s.x s.y w1 hh hk hgl)
  have kC : Hid (∀ w1, Sl 1 icell w1 w1.heap.size GA G → Sl 1 icell w1 w1.heap.size PA P → Calls Tryz.prog 28 #[tv W H GA PA G.length gc P.length pc, cv cx cy] w1 fun e w' => e = .returned (.bool r) ∧ Below w1.heap.size w1 w') := Lib.hid (fun w1 hh hk => by rw [← hr']; exact rHas_any W H GA PA gc pc G P cx cy w1 hh hk hgl)
  clear hp' hq' hr'
  cases p <;> cases q <;> cases r
  all_goals
    go_enter Tryz.func15, Tryz.ntmps15
    go_wp2_with fail
    rw [HW.out]
    refine wp_region_kept V.heap.size V (by kernel_rfl) (by kernel_rfl) (Below.refl _ _) ?_
    repeat (go_big_quiet_step ((first | (go_at_call 43; exact Kept.calls (Nat.le_refl _) (kV.out _ hS1.kept)) | (go_at_call 25; exact Kept.calls (Nat.le_refl _) (rCell_any s A c _)) | (go_at_call 28; with_reducible exact Kept.calls (Nat.le_refl _) (kH.out _ hg1.kept hp1.kept)) | (go_at_call 28; with_reducible exact Kept.calls (Nat.le_refl _) (kC.out _ hg1.kept hp1.kept)))))
    refine wpQuiet_nil ?_
    rintro w1 ⟨⟨_, hb1⟩, rfl⟩
    go_wp2_with fail
    go_ret
    exact ⟨rfl, after_ hB hb1⟩
end Go.Proofs.YtihepapjopcagaaGreatDoor
end

/- Layer 13: lists of stations; terrain.Has; Find. -/
section
namespace Go.Proofs.YtihepapjopcagaaGreatDoor
open Go Go.RowKit
set_option maxRecDepth 100000

/-- A station in memory: the station, and where its pattern lies. -/
structure SE where
  s : St
  A : Option Addr
  c : Nat
def secell (e : SE) (j : Nat) : Value := ((stc e.s e.A e.c)[j]?).getD (.int .i64 0)
theorem se_one (e : SE) (j : Nat) : (secell e j).oneCell' = true := by
  unfold secell
  match j with
  | 0 | 1 | 2 | 3 | 4 | 5 | 6 | 7 => rfl
  | j + 8 => simp; rfl
theorem seInfo : (Tryz.prog.info? 34).map (fun i => (i.zero, i.size, i.bytes)) = some (some (.agg #[.int .i64 0, .int .i64 0, .int .i64 0, .int .i64 0, .int .i64 0, .slice none 0 0, .int .i64 0, .int .i64 0]), 8, 80) := by kernel_rfl
/-- The patterns of stations in memory. -/
def Pats (w : World) (es : List SE) : Prop := ∀ e ∈ es, Sl 1 icell w w.heap.size e.A e.s.pat
theorem Pats.below {w w' : World} {es : List SE} (h : Pats w es) (hb : Below w.heap.size w w') : Pats w' es := fun e he => ((h e he).below hb).more hb.size
theorem Pats.at_ {w : World} {es : List SE} (h : Pats w es) {k : Nat} (hk : k < es.length) : Sl 1 icell w w.heap.size es[k].A es[k].s.pat := h _ (List.getElem_mem hk)
theorem Sl.st8 {w : World} {B : Nat} {LA : Option Addr} {es : List SE} {k : Nat} (h : Sl 8 secell w B LA es) (hk : k < es.length) :
    ∃ la, LA = some la ∧ (la.add (k * 8)).block < B ∧ w.cell? (la.add (k * 8)) = some (.int .i64 es[k].s.id) ∧ w.cell? ⟨(la.add (k * 8)).block, (la.add (k * 8)).off + 1, none⟩ = some (.int .i64 es[k].s.x) ∧ w.cell? ⟨(la.add (k * 8)).block, (la.add (k * 8)).off + 2, none⟩ = some (.int .i64 es[k].s.y)
      ∧ w.cell? ⟨(la.add (k * 8)).block, (la.add (k * 8)).off + 3, none⟩ = some (.int .i64 es[k].s.pw) ∧ w.cell? ⟨(la.add (k * 8)).block, (la.add (k * 8)).off + 4, none⟩ = some (.int .i64 es[k].s.h) ∧ w.cell? ⟨(la.add (k * 8)).block, (la.add (k * 8)).off + 5, none⟩ = some (.slice es[k].A es[k].s.pat.length es[k].c)
      ∧ w.cell? ⟨(la.add (k * 8)).block, (la.add (k * 8)).off + 6, none⟩ = some (.int .i64 es[k].s.band) ∧ w.cell? ⟨(la.add (k * 8)).block, (la.add (k * 8)).off + 7, none⟩ = some (.int .i64 es[k].s.ch) := by
  obtain ⟨la, e, hb, h0, hj⟩ := h.sp (by decide) hk
  exact ⟨la, e, hb, h0, hj 1 (by decide) (by decide), hj 2 (by decide) (by decide), hj 3 (by decide) (by decide), hj 4 (by decide) (by decide), hj 5 (by decide) (by decide), hj 6 (by decide) (by decide), hj 7 (by decide) (by decide)⟩

set_option maxHeartbeats 2000000 in
theorem inside_some (W H : Int) (GA PA : Option Addr) (gl gc pl pc : Nat) (x y : Int) (w : World) :
    Calls Tryz.prog 71 #[tv W H GA PA gl gc pl pc, cv x y] w fun e w' => ∃ b : Bool, e = .returned (.bool b) ∧ Below w.heap.size w w' := by
  have hB0 := (Below.refl w.heap.size w).alloc (Nat.le_refl _) (.cells #[.int .i64 W, .int .i64 H, .slice GA gl gc, .slice PA pl pc] 30)
  have hB1 := hB0.alloc hB0.size (.cells #[.int .i64 x, .int .i64 y] 36)
  go_enter Tryz.func71, Tryz.ntmps71
  go_wp2_with fail
  refine (within_any x 0 _ _).mono ?_
  rintro e w1 ⟨rfl, rfl⟩
  generalize M.isIn x 0 _ = b
  cases b with
  | false =>
    go_wp2_with fail
    go_ret
    exact ⟨false, rfl, hB1⟩
  | true =>
    go_wp2_with fail
    refine (within_any y 0 _ _).mono ?_
    rintro e w1 ⟨rfl, rfl⟩
    generalize M.isIn y 0 _ = q
    go_wp2_with fail
    go_ret
    exact ⟨q, rfl, hB1⟩

set_option maxHeartbeats 4000000 in
theorem has_any (W H : Int) (GA PA : Option Addr) (gc pc : Nat) (G P : List Int) (x y : Int) (w : World) (hg : Sl 1 icell w w.heap.size GA G) (hp : Sl 1 icell w w.heap.size PA P) (hgl : G.length ≤ 9223372036854775806) (hpl : P.length ≤ 9223372036854775806) :
    Calls Tryz.prog 49 #[tv W H GA PA G.length gc P.length pc, cv x y] w fun e w' => e = .returned (.bool (M.has W H G P x y)) ∧ Below w.heap.size w w' := by
  obtain ⟨V, HW, x0, x1, hB, -⟩ := boxes2 w #[.int .i64 W, .int .i64 H, .slice GA G.length gc, .slice PA P.length pc] 30 #[.int .i64 x, .int .i64 y] 36
  have hg1 := (hg.below hB).more hB.size
  have hp1 := (hp.below hB).more hB.size
  by_cases hr : (1 ≤ W ∧ W ≤ 64) ∧ (1 ≤ H ∧ H ≤ 64)
  · obtain ⟨r1, r2⟩ := hr
    obtain ⟨r, hr⟩ : ∃ r, M.has W H G P x y = r := ⟨_, rfl⟩
    have HR := Lib.hid hr
    rw [hr]
    clear hr
    go_enter Tryz.func49, Tryz.ntmps49
    go_wp2_with fail
    rw [HW.out]
    refine (inside_any W H GA PA G.length gc P.length pc x y V r1 r2).mono ?_
    rintro e w1 ⟨rfl, hb1⟩
    have B1 := after_ hB hb1
    cases hi : M.inside W H x y with
    | false =>
      have HF : Hid (false = r) := Lib.hid (by rw [← HR.out]; unfold M.has; rw [hi, Bool.and_false])
      go_wp2_with fail
      go_ret
      exact ⟨ret_bool HF.out, B1⟩
    | true =>
      obtain ⟨c0, c1, c2, c3⟩ := (x0.below hb1).c4
      have HF : Hid (M.tvalid W H G P = r) := Lib.hid (by rw [← HR.out]; unfold M.has; rw [hi, Bool.and_true])
      go_wp2_with fail
      refine (tvalid_any W H GA PA gc pc G P w1 ((hg1.below hb1).more hb1.size) ((hp1.below hb1).more hb1.size) hgl hpl).mono ?_
      rintro e w2 ⟨rfl, hb2⟩
      rw [HF.out]
      go_wp2_with fail
      go_ret
      exact ⟨rfl, after_ B1 hb2⟩
  · have hv : M.tvalid W H G P = false := by
      cases hv : M.tvalid W H G P with
      | false => rfl
      | true => obtain ⟨b1, b2, _⟩ := M.tvalid_iff.1 hv; exact absurd ⟨b1, b2⟩ hr
    have HF : Hid (false = M.has W H G P x y) := Lib.hid (by unfold M.has; rw [hv]; rfl)
    have HV := Lib.hid hv
    clear hv hr
    go_enter Tryz.func49, Tryz.ntmps49
    go_wp2_with fail
    rw [HW.out]
    refine (inside_some W H GA PA G.length gc P.length pc x y V).mono ?_
    rintro e w1 ⟨b, rfl, hb1⟩
    have B1 := after_ hB hb1
    cases b with
    | false =>
      go_wp2_with fail
      go_ret
      exact ⟨ret_bool HF.out, B1⟩
    | true =>
      obtain ⟨c0, c1, c2, c3⟩ := (x0.below hb1).c4
      go_wp2_with fail
      refine (tvalid_any W H GA PA gc pc G P w1 ((hg1.below hb1).more hb1.size) ((hp1.below hb1).more hb1.size) hgl hpl).mono ?_
      rintro e w2 ⟨rfl, hb2⟩
      rw [HV.out]
      go_wp2_with fail
      go_ret
      exact ⟨ret_bool HF.out, after_ B1 hb2⟩

abbrev zst : St := ⟨0, 0, 0, 0, 0, [], 0, 0⟩
/-- A call that returns a station, whose pattern is the call's own, and an error number. -/
def RetStE (w : World) (s : St) (er : Int) (e : Ending) (w' : World) : Prop :=
  ∃ A c, e = .returned (.tuple #[stv s A c, .int .i64 er]) ∧ Sl 1 icell w' w'.heap.size A s.pat ∧ (∀ ad, A = some ad → w.heap.size ≤ ad.block) ∧ Below w.heap.size w w'
/-- The station that Find returns, and the error. -/
def M.find (l : List St) (id : Int) : St × Int := if id < 0 ∨ 511 < id then (zst, 2) else match l.find? (fun s => decide (s.id = id)) with
  | some s => (s, 0)
  | none => (zst, 9)

end Go.Proofs.YtihepapjopcagaaGreatDoor
end
