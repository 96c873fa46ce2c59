/- A bundle of texts: AntA, RDir, St. -/
import Derived.Test.YtciolgmljpamlaaGreatDoorC16
import Derived.Test.YtciolgmljpamlaaGreatDoorC17
section
/- Layer 12: Valid, Loss, Equal, Copy of antennas, and the reference's. -/
namespace Go.Proofs.YtciolgmljpamlaaGreatDoor
open Go Go.RowKit
set_option maxRecDepth 100000
theorem M.avalid_at {h : Int} {pat : List Int} {k : Nat} (hk : k < pat.length) (hn : ¬ (0 ≤ pat[k] ∧ pat[k] ≤ 80)) : M.avalid h pat = false := by
  cases hv : M.avalid h pat with
  | false => rfl
  | true => exact absurd ((M.avalid_iff.1 hv).2.2 _ (List.getElem_mem hk)) hn
theorem M.avalid_all {h : Int} {pat : List Int} (h1 : 1 ≤ h ∧ h ≤ 500) (h2 : pat.length = 16) (h3 : ∀ k (hk : k < pat.length), 0 ≤ pat[k] ∧ pat[k] ≤ 80) : M.avalid h pat = true := by
  refine M.avalid_iff.2 ⟨h1, h2, fun g hg => ?_⟩
  obtain ⟨i, hi, rfl⟩ := List.getElem_of_mem hg
  exact h3 i hi
theorem M.avalid_no {h : Int} {pat : List Int} (hn : ¬ ((1 ≤ h ∧ h ≤ 500) ∧ pat.length = 16)) : M.avalid h pat = false := by
  cases hv : M.avalid h pat with
  | false => rfl
  | true => obtain ⟨a, b, _⟩ := M.avalid_iff.1 hv; exact absurd ⟨a, b⟩ hn
set_option maxHeartbeats 4000000 in
theorem aValid_any (h : Int) (A : Option Addr) (c : Nat) (pat : List Int) (w : World) (hS : Sl 1 icell w w.heap.size A pat) (hl : pat.length ≤ 9223372036854775807) :
    Calls Tryz.prog 155 #[av h A pat.length c] w fun e w' => e = .returned (.bool (M.avalid h pat)) ∧ Below w.heap.size w w' := by
  obtain ⟨V, HW, x0, hB, -⟩ := boxes1 w #[.int .i64 h, .slice A pat.length c] 38
  have hS1 := (hS.below hB).more hB.size
  by_cases hr : (1 ≤ h ∧ h ≤ 500) ∧ pat.length = 16
  · obtain ⟨a1, a2⟩ := hr
    have q1 : decide (h < 1) = false := by simp; omega
    have q2 : decide (500 < h) = false := by simp; omega
    have q3 : ((pat.length : Int) != 16) = false := by rw [a2]; rfl
    have HL := Lib.hid a2
    have hl16 : pat.length ≤ 16 := by omega
    clear a2
    obtain ⟨c0, c1⟩ := x0.c2
    go_enter Tryz.func155, Tryz.ntmps155
    go_wp2_with fail
    rw [HW.out]
    go_loop [4, 22] (fun _ i => ∃ k : Nat, k ≤ pat.length ∧ i = .int .i64 k ∧ Hid (∀ j (hj : j < pat.length), j < k → 0 ≤ pat[j] ∧ pat[j] ≤ 80)) (fun _ i => pat.length - (intOf i).toNat)
    case atStart => exact ⟨0, Nat.zero_le _, rfl, Lib.hid (fun j _ h => absurd h (by omega))⟩
    case round =>
      clear q1 q2 q3
      obtain ⟨k, hk, rfl, HK⟩ := hrel
      by_cases hlt : k < pat.length
      · have hk16 : k < 16 := by have := HL.out; omega
        obtain ⟨ga, rfl, hgb, e0⟩ := hS1.int_at hlt
        have HA : Hid (¬ (0 ≤ pat[k] ∧ pat[k] ≤ 80) → false = M.avalid h pat) := Lib.hid (fun h => (M.avalid_at hlt h).symm)
        have HK2 : Hid (0 ≤ pat[k] ∧ pat[k] ≤ 80 → ∀ j (hj : j < pat.length), j < k + 1 → 0 ≤ pat[j] ∧ pat[j] ≤ 80) := Lib.hid (fun h j h1 h3 => by
          by_cases e : j = k
          · subst e; exact h
          · exact HK.out j h1 (by omega))
        generalize pat[k] = g at *
        by_cases b1 : g < 0
        · have b1' : decide (g < 0) = true := decide_eq_true b1
          go_wp2_with fail
          go_ret
          exact ⟨ret_bool (HA.out (by omega)), hB⟩
        · have b1' : decide (g < 0) = false := decide_eq_false b1
          by_cases b2 : 80 < g
          · have b2' : decide (80 < g) = true := decide_eq_true b2
            go_wp2_with fail
            go_ret
            exact ⟨ret_bool (HA.out (by omega)), hB⟩
          · have b2' : decide (80 < g) = false := decide_eq_false b2
            have hok : 0 ≤ g ∧ g ≤ 80 := by omega
            clear b1 b2
            go_wp2_with fail
            go_round
            case rel => exact ⟨k + 1, hlt, by go_num, Lib.hid (HK2.out hok)⟩
            case measure => simp [intOf]; omega
      · have hkl : k = pat.length := by omega
        have HF : Hid (true = M.avalid h pat) := Lib.hid (M.avalid_all a1 HL.out (fun j hj => HK.out j hj (by omega))).symm
        have hk16 : (16 : Int) ≤ (k : Int) := by have := HL.out; omega
        have hk17 : ¬ k < 16 := by omega
        clear hkl
        go_wp2_with fail
        go_ret
        exact ⟨ret_bool HF.out, hB⟩
  · have HF : Hid (false = M.avalid h pat) := Lib.hid (M.avalid_no hr).symm
    by_cases b1 : h < 1
    · have q1 : decide (h < 1) = true := decide_eq_true b1
      clear hr
      go_enter Tryz.func155, Tryz.ntmps155
      go_wp2_with fail
      go_ret
      exact ⟨ret_bool HF.out, by rw [HW.out]; exact hB⟩
    · have q1 : decide (h < 1) = false := decide_eq_false b1
      by_cases b2 : 500 < h
      · have q2 : decide (500 < h) = true := decide_eq_true b2
        clear hr
        go_enter Tryz.func155, Tryz.ntmps155
        go_wp2_with fail
        go_ret
        exact ⟨ret_bool HF.out, by rw [HW.out]; exact hB⟩
      · have q2 : decide (500 < h) = false := decide_eq_false b2
        have q3 : ((pat.length : Int) != 16) = true := by
          rw [bne_iff_ne]; intro e; exact hr ⟨by omega, by omega⟩
        clear hr
        go_enter Tryz.func155, Tryz.ntmps155
        go_wp2_with fail
        go_ret
        exact ⟨ret_bool HF.out, by rw [HW.out]; exact hB⟩
set_option maxHeartbeats 4000000 in
theorem rAValid_any (h : Int) (A : Option Addr) (c : Nat) (pat : List Int) (w : World) (hS : Sl 1 icell w w.heap.size A pat) (hl : pat.length ≤ 9223372036854775807) :
    Calls Tryz.prog 101 #[av h A pat.length c] w fun e w' => e = .returned (.bool (M.avalid h pat)) ∧ Below w.heap.size w w' := by
  obtain ⟨V, HW, x0, hB, -⟩ := boxes1 w #[.int .i64 h, .slice A pat.length c] 38
  have hS1 := (hS.below hB).more hB.size
  by_cases hr : (1 ≤ h ∧ h ≤ 500) ∧ pat.length = 16
  · obtain ⟨a1, a2⟩ := hr
    have q1 : decide (h < 1) = false := by simp; omega
    have q2 : decide (500 < h) = false := by simp; omega
    have q3 : ((pat.length : Int) != 16) = false := by rw [a2]; rfl
    have HL := Lib.hid a2
    have hl16 : pat.length ≤ 16 := by omega
    clear a2
    obtain ⟨c0, c1⟩ := x0.c2
    go_enter Tryz.func101, Tryz.ntmps101
    go_wp2_with fail
    rw [HW.out]
    go_loop [3] (fun i => ∃ k : Nat, k ≤ pat.length ∧ i = .int .i64 k ∧ Hid (∀ j (hj : j < pat.length), j < k → 0 ≤ pat[j] ∧ pat[j] ≤ 80)) (fun i => pat.length - (intOf i).toNat)
    case atStart => exact ⟨0, Nat.zero_le _, rfl, Lib.hid (fun j _ h => absurd h (by omega))⟩
    case round =>
      clear q1 q2 q3
      obtain ⟨k, hk, rfl, HK⟩ := hrel
      by_cases hlt : k < pat.length
      · have hk16 : k < 16 := by have := HL.out; omega
        obtain ⟨ga, rfl, hgb, e0⟩ := hS1.int_at hlt
        have HA : Hid (¬ (0 ≤ pat[k] ∧ pat[k] ≤ 80) → false = M.avalid h pat) := Lib.hid (fun h => (M.avalid_at hlt h).symm)
        have HK2 : Hid (0 ≤ pat[k] ∧ pat[k] ≤ 80 → ∀ j (hj : j < pat.length), j < k + 1 → 0 ≤ pat[j] ∧ pat[j] ≤ 80) := Lib.hid (fun h j h1 h3 => by
          by_cases e : j = k
          · subst e; exact h
          · exact HK.out j h1 (by omega))
        generalize pat[k] = g at *
        by_cases b1 : g < 0
        · have b1' : decide (g < 0) = true := decide_eq_true b1
          go_wp2_with fail
          go_ret
          exact ⟨ret_bool (HA.out (by omega)), hB⟩
        · have b1' : decide (g < 0) = false := decide_eq_false b1
          by_cases b2 : 80 < g
          · have b2' : decide (80 < g) = true := decide_eq_true b2
            go_wp2_with fail
            go_ret
            exact ⟨ret_bool (HA.out (by omega)), hB⟩
          · have b2' : decide (80 < g) = false := decide_eq_false b2
            have hok : 0 ≤ g ∧ g ≤ 80 := by omega
            clear b1 b2
            go_wp2_with fail
            go_round
            case rel => exact ⟨k + 1, hlt, by go_num, Lib.hid (HK2.out hok)⟩
            case measure => simp [intOf]; omega
      · have hkl : k = pat.length := by omega
        have HF : Hid (true = M.avalid h pat) := Lib.hid (M.avalid_all a1 HL.out (fun j hj => HK.out j hj (by omega))).symm
        have hk16 : (16 : Int) ≤ (k : Int) := by have := HL.out; omega
        have hk17 : ¬ k < 16 := by omega
        clear hkl
        go_wp2_with fail
        go_ret
        exact ⟨ret_bool HF.out, hB⟩
  · have HF : Hid (false = M.avalid h pat) := Lib.hid (M.avalid_no hr).symm
    by_cases b1 : h < 1
    · have q1 : decide (h < 1) = true := decide_eq_true b1
      clear hr
      go_enter Tryz.func101, Tryz.ntmps101
      go_wp2_with fail
      go_ret
      exact ⟨ret_bool HF.out, by rw [HW.out]; exact hB⟩
    · have q1 : decide (h < 1) = false := decide_eq_false b1
      by_cases b2 : 500 < h
      · have q2 : decide (500 < h) = true := decide_eq_true b2
        clear hr
        go_enter Tryz.func101, Tryz.ntmps101
        go_wp2_with fail
        go_ret
        exact ⟨ret_bool HF.out, by rw [HW.out]; exact hB⟩
      · have q2 : decide (500 < h) = false := decide_eq_false b2
        have q3 : ((pat.length : Int) != 16) = true := by
          rw [bne_iff_ne]; intro e; exact hr ⟨by omega, by omega⟩
        clear hr
        go_enter Tryz.func101, Tryz.ntmps101
        go_wp2_with fail
        go_ret
        exact ⟨ret_bool HF.out, by rw [HW.out]; exact hB⟩
end Go.Proofs.YtciolgmljpamlaaGreatDoor
/- Layer 12: Loss, Equal, Copy of antennas, and the reference's. -/
namespace Go.Proofs.YtciolgmljpamlaaGreatDoor
open Go Go.RowKit
set_option maxRecDepth 100000
set_option maxHeartbeats 4000000 in
theorem aLoss_ok (h : Int) (A : Option Addr) (c : Nat) (pat : List Int) (dx dy : Int) (w : World) (ht : Tab w) (hS : Sl 1 icell w w.heap.size A pat) (hv : M.avalid h pat = true) (hx : -100 ≤ dx ∧ dx ≤ 100) (hy : -100 ≤ dy ∧ dy ≤ 100) :
    Calls Tryz.prog 136 #[av h A pat.length c, .int .i64 dx, .int .i64 dy] w fun e w' => e = .returned (.tuple #[.int .i64 (M.aloss pat dx dy), .int .i64 0]) ∧ Below w.heap.size w w' := by
  obtain ⟨V, HW, x0, hB, -⟩ := boxes1 w #[.int .i64 h, .slice A pat.length c] 38
  have hS1 := (hS.below hB).more hB.size
  obtain ⟨-, hl, -⟩ := M.avalid_iff.1 hv
  have HL := Lib.hid hl
  have hl2 : pat.length ≤ 16 := by omega
  have HV := Lib.hid hv
  clear hl hv
  by_cases h0 : dx = 0 ∧ dy = 0
  · obtain ⟨rfl, rfl⟩ := h0
    have HF := Lib.hid (M.aloss_zero pat)
    go_enter Tryz.func136, Tryz.ntmps136
    go_wp2_with fail
    rw [HW.out]
    refine (aValid_any h A c pat V hS1 (by omega)).mono ?_
    rintro e w1 ⟨rfl, hb1⟩
    rw [HV.out]
    go_wp2_with fail
    go_ret2
    exact ⟨ret_int2 HF.out.symm rfl, after_ hB hb1⟩
  · have hdb := M.dir_bd dx dy
    obtain ⟨j, hj⟩ := Int.eq_ofNat_of_zero_le hdb.1
    have hjl : j < pat.length := by have := HL.out; omega
    have HF := Lib.hid (M.aloss_at h0 hj hjl)
    have HJ := Lib.hid hj
    have H0 := Lib.hid h0
    clear hj hdb
    have key : ∀ w1, Tab w1 → Below w.heap.size w w1 → Box w1 w.heap.size #[.int .i64 h, .slice A pat.length c] 38 → Sl 1 icell w1 w1.heap.size A pat → Calls Tryz.prog 178 #[.int .i64 dx, .int .i64 dy] w1 fun e w' => e = .returned (.tuple #[.int .i64 (j : Int), .int .i64 0]) ∧ Below w1.heap.size w1 w' := by
      intro w1 t1 _ _ _
      have := direction_ok dx dy w1 t1 hx hy H0.out
      rwa [HJ.out] at this
    by_cases hx0 : dx = 0
    · have hy0 : ¬ dy = 0 := fun h => h0 ⟨hx0, h⟩
      have q2 : (dy == 0) = false := by simp [hy0]
      subst hx0
      clear h0
      go_enter Tryz.func136, Tryz.ntmps136
      go_wp2_with fail
      rw [HW.out]
      refine (aValid_any h A c pat V hS1 (by omega)).mono ?_
      rintro e w1 ⟨rfl, hb1⟩
      rw [HV.out]
      have B1 := after_ hB hb1
      go_wp2_with fail
      refine (key w1 (ht.kept B1) B1 (x0.below hb1) ((hS1.below hb1).more hb1.size)).mono ?_
      rintro e w2 ⟨rfl, hb2⟩
      obtain ⟨c0, c1⟩ := ((x0.below hb1).below hb2).c2
      obtain ⟨ad, rfl, hab, da⟩ := ((((hS1.below hb1).more hb1.size).below hb2).more hb2.size).int_at hjl
      rw [HF.out] at da
      go_wp2_with fail
      go_ret2
      exact ⟨rfl, after_ B1 hb2⟩
    · have q1 : (dx == 0) = false := by simp [hx0]
      clear h0
      go_enter Tryz.func136, Tryz.ntmps136
      go_wp2_with fail
      rw [HW.out]
      refine (aValid_any h A c pat V hS1 (by omega)).mono ?_
      rintro e w1 ⟨rfl, hb1⟩
      rw [HV.out]
      have B1 := after_ hB hb1
      go_wp2_with fail
      refine (key w1 (ht.kept B1) B1 (x0.below hb1) ((hS1.below hb1).more hb1.size)).mono ?_
      rintro e w2 ⟨rfl, hb2⟩
      obtain ⟨c0, c1⟩ := ((x0.below hb1).below hb2).c2
      obtain ⟨ad, rfl, hab, da⟩ := ((((hS1.below hb1).more hb1.size).below hb2).more hb2.size).int_at hjl
      rw [HF.out] at da
      go_wp2_with fail
      go_ret2
      exact ⟨rfl, after_ B1 hb2⟩
end Go.Proofs.YtciolgmljpamlaaGreatDoor
namespace Go.Proofs.YtciolgmljpamlaaGreatDoor
open Go Go.RowKit
end Go.Proofs.YtciolgmljpamlaaGreatDoor
end

section
namespace Go.Proofs.YtciolgmljpamlaaGreatDoor
open Go Go.RowKit
set_option maxRecDepth 100000
set_option maxHeartbeats 2000000 in
theorem rDir0 (dx dy : Int) (w : World) (hx : -100 ≤ dx ∧ dx ≤ 100) (hy : -100 ≤ dy ∧ dy ≤ 100) (sx : dx < 0) (sy : dy < 0) : Calls Tryz.prog 205 #[.int .i64 dx, .int .i64 dy] w fun e w' => e = .returned (.int .i64 (M.dir dx dy)) ∧ w = w' := by
  have q0 : decide (dx ≤ 0) = true := by simp; omega
  have q1 : decide (0 < dy) = false := by simp; omega
  have q2 : decide (dx < 0) = true := by simp; omega
  have q3 : decide (dy ≤ 0) = true := by simp; omega
  have q4 : decide (0 ≤ dx) = false := by simp; omega
  have q5 : decide (dy < 0) = true := by simp; omega
  by_cases b0 : 2 * (-dy) < -dx
  · have HF : Hid (((8 : Int)) = M.dir dx dy) := Lib.hid (by unfold M.dir M.steps; clear q0 q1 q2 q3 q4 q5; repeat' split; all_goals omega)
    go_enter Tryz.func205, Tryz.ntmps205
    go_wp2_with fail
    go_ret
    exact ⟨ret_int HF.out, rfl⟩
  by_cases b1 : -dy < -dx
  · have HF : Hid (((9 : Int)) = M.dir dx dy) := Lib.hid (by unfold M.dir M.steps; clear q0 q1 q2 q3 q4 q5; repeat' split; all_goals omega)
    go_enter Tryz.func205, Tryz.ntmps205
    go_wp2_with fail
    go_ret
    exact ⟨ret_int HF.out, rfl⟩
  by_cases b2 : -dy < 2 * (-dx)
  · have HF : Hid (((10 : Int)) = M.dir dx dy) := Lib.hid (by unfold M.dir M.steps; clear q0 q1 q2 q3 q4 q5; repeat' split; all_goals omega)
    go_enter Tryz.func205, Tryz.ntmps205
    go_wp2_with fail
    go_ret
    exact ⟨ret_int HF.out, rfl⟩
  have HF : Hid (((11 : Int)) = M.dir dx dy) := Lib.hid (by unfold M.dir M.steps; clear q0 q1 q2 q3 q4 q5; repeat' split; all_goals omega)
  go_enter Tryz.func205, Tryz.ntmps205
  go_wp2_with fail
  go_ret
  exact ⟨ret_int HF.out, rfl⟩
set_option maxHeartbeats 2000000 in
theorem rDir1 (dx dy : Int) (w : World) (hx : -100 ≤ dx ∧ dx ≤ 100) (hy : -100 ≤ dy ∧ dy ≤ 100) (sx : dx < 0) (sy : 0 ≤ dy ∧ dy ≤ 0) : Calls Tryz.prog 205 #[.int .i64 dx, .int .i64 dy] w fun e w' => e = .returned (.int .i64 (M.dir dx dy)) ∧ w = w' := by
  have q0 : decide (dx ≤ 0) = true := by simp; omega
  have q1 : decide (0 < dy) = false := by simp; omega
  have q2 : decide (dx < 0) = true := by simp; omega
  have q3 : decide (dy ≤ 0) = true := by simp; omega
  have q4 : decide (0 ≤ dx) = false := by simp; omega
  have q5 : decide (dy < 0) = false := by simp; omega
  have b0 : 2 * (-dy) < -dx := by omega
  have HF : Hid (((8 : Int)) = M.dir dx dy) := Lib.hid (by unfold M.dir M.steps; clear q0 q1 q2 q3 q4 q5; repeat' split; all_goals omega)
  go_enter Tryz.func205, Tryz.ntmps205
  go_wp2_with fail
  go_ret
  exact ⟨ret_int HF.out, rfl⟩
set_option maxHeartbeats 2000000 in
theorem rDir2 (dx dy : Int) (w : World) (hx : -100 ≤ dx ∧ dx ≤ 100) (hy : -100 ≤ dy ∧ dy ≤ 100) (sx : dx < 0) (sy : 0 < dy) : Calls Tryz.prog 205 #[.int .i64 dx, .int .i64 dy] w fun e w' => e = .returned (.int .i64 (M.dir dx dy)) ∧ w = w' := by
  have q0 : decide (dx ≤ 0) = true := by simp; omega
  have q1 : decide (0 < dy) = true := by simp; omega
  have q2 : decide (dx < 0) = true := by simp; omega
  have q3 : decide (dy ≤ 0) = false := by simp; omega
  have q4 : decide (0 ≤ dx) = false := by simp; omega
  have q5 : decide (dy < 0) = false := by simp; omega
  by_cases b0 : 2 * (-dx) < dy
  · have HF : Hid (((4 : Int)) = M.dir dx dy) := Lib.hid (by unfold M.dir M.steps; clear q0 q1 q2 q3 q4 q5; repeat' split; all_goals omega)
    go_enter Tryz.func205, Tryz.ntmps205
    go_wp2_with fail
    go_ret
    exact ⟨ret_int HF.out, rfl⟩
  by_cases b1 : -dx < dy
  · have HF : Hid (((5 : Int)) = M.dir dx dy) := Lib.hid (by unfold M.dir M.steps; clear q0 q1 q2 q3 q4 q5; repeat' split; all_goals omega)
    go_enter Tryz.func205, Tryz.ntmps205
    go_wp2_with fail
    go_ret
    exact ⟨ret_int HF.out, rfl⟩
  by_cases b2 : -dx < 2 * dy
  · have HF : Hid (((6 : Int)) = M.dir dx dy) := Lib.hid (by unfold M.dir M.steps; clear q0 q1 q2 q3 q4 q5; repeat' split; all_goals omega)
    go_enter Tryz.func205, Tryz.ntmps205
    go_wp2_with fail
    go_ret
    exact ⟨ret_int HF.out, rfl⟩
  have HF : Hid (((7 : Int)) = M.dir dx dy) := Lib.hid (by unfold M.dir M.steps; clear q0 q1 q2 q3 q4 q5; repeat' split; all_goals omega)
  go_enter Tryz.func205, Tryz.ntmps205
  go_wp2_with fail
  go_ret
  exact ⟨ret_int HF.out, rfl⟩
set_option maxHeartbeats 2000000 in
theorem rDir3 (dx dy : Int) (w : World) (hx : -100 ≤ dx ∧ dx ≤ 100) (hy : -100 ≤ dy ∧ dy ≤ 100) (sx : 0 ≤ dx ∧ dx ≤ 0) (sy : dy < 0) : Calls Tryz.prog 205 #[.int .i64 dx, .int .i64 dy] w fun e w' => e = .returned (.int .i64 (M.dir dx dy)) ∧ w = w' := by
  have q0 : decide (dx ≤ 0) = true := by simp; omega
  have q1 : decide (0 < dy) = false := by simp; omega
  have q2 : decide (dx < 0) = false := by simp; omega
  have q3 : decide (dy ≤ 0) = true := by simp; omega
  have q4 : decide (0 ≤ dx) = true := by simp; omega
  have q5 : decide (dy < 0) = true := by simp; omega
  have b0 : 2 * dx < -dy := by omega
  have HF : Hid (((12 : Int)) = M.dir dx dy) := Lib.hid (by unfold M.dir M.steps; clear q0 q1 q2 q3 q4 q5; repeat' split; all_goals omega)
  go_enter Tryz.func205, Tryz.ntmps205
  go_wp2_with fail
  go_ret
  exact ⟨ret_int HF.out, rfl⟩
set_option maxHeartbeats 2000000 in
theorem rDir4 (dx dy : Int) (w : World) (hx : -100 ≤ dx ∧ dx ≤ 100) (hy : -100 ≤ dy ∧ dy ≤ 100) (sx : 0 ≤ dx ∧ dx ≤ 0) (sy : 0 < dy) : Calls Tryz.prog 205 #[.int .i64 dx, .int .i64 dy] w fun e w' => e = .returned (.int .i64 (M.dir dx dy)) ∧ w = w' := by
  have q0 : decide (dx ≤ 0) = true := by simp; omega
  have q1 : decide (0 < dy) = true := by simp; omega
  have q2 : decide (dx < 0) = false := by simp; omega
  have q3 : decide (dy ≤ 0) = false := by simp; omega
  have q4 : decide (0 ≤ dx) = true := by simp; omega
  have q5 : decide (dy < 0) = false := by simp; omega
  have b0 : 2 * (-dx) < dy := by omega
  have HF : Hid (((4 : Int)) = M.dir dx dy) := Lib.hid (by unfold M.dir M.steps; clear q0 q1 q2 q3 q4 q5; repeat' split; all_goals omega)
  go_enter Tryz.func205, Tryz.ntmps205
  go_wp2_with fail
  go_ret
  exact ⟨ret_int HF.out, rfl⟩
set_option maxHeartbeats 2000000 in
theorem rDir5 (dx dy : Int) (w : World) (hx : -100 ≤ dx ∧ dx ≤ 100) (hy : -100 ≤ dy ∧ dy ≤ 100) (sx : 0 < dx) (sy : dy < 0) : Calls Tryz.prog 205 #[.int .i64 dx, .int .i64 dy] w fun e w' => e = .returned (.int .i64 (M.dir dx dy)) ∧ w = w' := by
  have q0 : decide (dx ≤ 0) = false := by simp; omega
  have q1 : decide (0 < dy) = false := by simp; omega
  have q2 : decide (dx < 0) = false := by simp; omega
  have q3 : decide (dy ≤ 0) = true := by simp; omega
  have q4 : decide (0 ≤ dx) = true := by simp; omega
  have q5 : decide (dy < 0) = true := by simp; omega
  by_cases b0 : 2 * dx < -dy
  · have HF : Hid (((12 : Int)) = M.dir dx dy) := Lib.hid (by unfold M.dir M.steps; clear q0 q1 q2 q3 q4 q5; repeat' split; all_goals omega)
    go_enter Tryz.func205, Tryz.ntmps205
    go_wp2_with fail
    go_ret
    exact ⟨ret_int HF.out, rfl⟩
  by_cases b1 : dx < -dy
  · have HF : Hid (((13 : Int)) = M.dir dx dy) := Lib.hid (by unfold M.dir M.steps; clear q0 q1 q2 q3 q4 q5; repeat' split; all_goals omega)
    go_enter Tryz.func205, Tryz.ntmps205
    go_wp2_with fail
    go_ret
    exact ⟨ret_int HF.out, rfl⟩
  by_cases b2 : dx < 2 * (-dy)
  · have HF : Hid (((14 : Int)) = M.dir dx dy) := Lib.hid (by unfold M.dir M.steps; clear q0 q1 q2 q3 q4 q5; repeat' split; all_goals omega)
    go_enter Tryz.func205, Tryz.ntmps205
    go_wp2_with fail
    go_ret
    exact ⟨ret_int HF.out, rfl⟩
  have HF : Hid (((15 : Int)) = M.dir dx dy) := Lib.hid (by unfold M.dir M.steps; clear q0 q1 q2 q3 q4 q5; repeat' split; all_goals omega)
  go_enter Tryz.func205, Tryz.ntmps205
  go_wp2_with fail
  go_ret
  exact ⟨ret_int HF.out, rfl⟩
set_option maxHeartbeats 2000000 in
theorem rDir6 (dx dy : Int) (w : World) (hx : -100 ≤ dx ∧ dx ≤ 100) (hy : -100 ≤ dy ∧ dy ≤ 100) (sx : 0 < dx) (sy : 0 ≤ dy ∧ dy ≤ 0) : Calls Tryz.prog 205 #[.int .i64 dx, .int .i64 dy] w fun e w' => e = .returned (.int .i64 (M.dir dx dy)) ∧ w = w' := by
  have q0 : decide (dx ≤ 0) = false := by simp; omega
  have q1 : decide (0 < dy) = false := by simp; omega
  have q2 : decide (dx < 0) = false := by simp; omega
  have q3 : decide (dy ≤ 0) = true := by simp; omega
  have q4 : decide (0 ≤ dx) = true := by simp; omega
  have q5 : decide (dy < 0) = false := by simp; omega
  have b0 : 2 * dy < dx := by omega
  have HF : Hid (((0 : Int)) = M.dir dx dy) := Lib.hid (by unfold M.dir M.steps; clear q0 q1 q2 q3 q4 q5; repeat' split; all_goals omega)
  go_enter Tryz.func205, Tryz.ntmps205
  go_wp2_with fail
  go_ret
  exact ⟨ret_int HF.out, rfl⟩
set_option maxHeartbeats 2000000 in
theorem rDir7 (dx dy : Int) (w : World) (hx : -100 ≤ dx ∧ dx ≤ 100) (hy : -100 ≤ dy ∧ dy ≤ 100) (sx : 0 < dx) (sy : 0 < dy) : Calls Tryz.prog 205 #[.int .i64 dx, .int .i64 dy] w fun e w' => e = .returned (.int .i64 (M.dir dx dy)) ∧ w = w' := by
  have q0 : decide (dx ≤ 0) = false := by simp; omega
  have q1 : decide (0 < dy) = true := by simp; omega
  have q2 : decide (dx < 0) = false := by simp; omega
  have q3 : decide (dy ≤ 0) = false := by simp; omega
  have q4 : decide (0 ≤ dx) = true := by simp; omega
  have q5 : decide (dy < 0) = false := by simp; omega
  by_cases b0 : 2 * dy < dx
  · have HF : Hid (((0 : Int)) = M.dir dx dy) := Lib.hid (by unfold M.dir M.steps; clear q0 q1 q2 q3 q4 q5; repeat' split; all_goals omega)
    go_enter Tryz.func205, Tryz.ntmps205
    go_wp2_with fail
    go_ret
    exact ⟨ret_int HF.out, rfl⟩
  by_cases b1 : dy < dx
  · have HF : Hid (((1 : Int)) = M.dir dx dy) := Lib.hid (by unfold M.dir M.steps; clear q0 q1 q2 q3 q4 q5; repeat' split; all_goals omega)
    go_enter Tryz.func205, Tryz.ntmps205
    go_wp2_with fail
    go_ret
    exact ⟨ret_int HF.out, rfl⟩
  by_cases b2 : dy < 2 * dx
  · have HF : Hid (((2 : Int)) = M.dir dx dy) := Lib.hid (by unfold M.dir M.steps; clear q0 q1 q2 q3 q4 q5; repeat' split; all_goals omega)
    go_enter Tryz.func205, Tryz.ntmps205
    go_wp2_with fail
    go_ret
    exact ⟨ret_int HF.out, rfl⟩
  have HF : Hid (((3 : Int)) = M.dir dx dy) := Lib.hid (by unfold M.dir M.steps; clear q0 q1 q2 q3 q4 q5; repeat' split; all_goals omega)
  go_enter Tryz.func205, Tryz.ntmps205
  go_wp2_with fail
  go_ret
  exact ⟨ret_int HF.out, rfl⟩
theorem rDir_ok (dx dy : Int) (w : World) (hx : -100 ≤ dx ∧ dx ≤ 100) (hy : -100 ≤ dy ∧ dy ≤ 100) (h0 : ¬ (dx = 0 ∧ dy = 0)) : Calls Tryz.prog 205 #[.int .i64 dx, .int .i64 dy] w fun e w' => e = .returned (.int .i64 (M.dir dx dy)) ∧ w = w' := by
  have tx : dx < 0 ∨ dx = 0 ∨ 0 < dx := by omega
  have ty : dy < 0 ∨ dy = 0 ∨ 0 < dy := by omega
  rcases tx with a | a | a <;> rcases ty with b | b | b
  · exact rDir0 dx dy w hx hy a b
  · exact rDir1 dx dy w hx hy a (by omega)
  · exact rDir2 dx dy w hx hy a b
  · exact rDir3 dx dy w hx hy (by omega) b
  · exact absurd ⟨a, b⟩ h0
  · exact rDir4 dx dy w hx hy (by omega) b
  · exact rDir5 dx dy w hx hy a b
  · exact rDir6 dx dy w hx hy a (by omega)
  · exact rDir7 dx dy w hx hy a b
set_option maxHeartbeats 4000000 in
theorem rALoss_ok (h : Int) (A : Option Addr) (c : Nat) (pat : List Int) (dx dy : Int) (w : World) (hS : Sl 1 icell w w.heap.size A pat) (hv : M.avalid h pat = true) (hx : -100 ≤ dx ∧ dx ≤ 100) (hy : -100 ≤ dy ∧ dy ≤ 100) :
    Calls Tryz.prog 192 #[av h A pat.length c, .int .i64 dx, .int .i64 dy] w fun e w' => e = .returned (.int .i64 (M.aloss pat dx dy)) ∧ Below w.heap.size w w' := by
  obtain ⟨V, HW, x0, hB, -⟩ := boxes1 w #[.int .i64 h, .slice A pat.length c] 38
  have hS1 := (hS.below hB).more hB.size
  obtain ⟨-, hl, -⟩ := M.avalid_iff.1 hv
  have HL := Lib.hid hl
  clear hl hv
  by_cases h0 : dx = 0 ∧ dy = 0
  · obtain ⟨rfl, rfl⟩ := h0
    have HF := Lib.hid (M.aloss_zero pat)
    go_enter Tryz.func192, Tryz.ntmps192
    go_wp2_with fail
    go_ret
    exact ⟨ret_int HF.out.symm, by rw [HW.out]; exact hB⟩
  · have hdb := M.dir_bd dx dy
    obtain ⟨j, hj⟩ := Int.eq_ofNat_of_zero_le hdb.1
    have hjl : j < pat.length := by have := HL.out; omega
    have HF := Lib.hid (M.aloss_at h0 hj hjl)
    have HJ := Lib.hid hj
    have H0 := Lib.hid h0
    have key : ∀ w1, Hid (dx = dx) → Calls Tryz.prog 205 #[.int .i64 dx, .int .i64 dy] w1 fun e w' => e = .returned (.int .i64 (j : Int)) ∧ w1 = w' := by
      intro w1 _
      have := rDir_ok dx dy w1 hx hy H0.out
      rwa [HJ.out] at this
    have hK : Hid (dx = dx) := Lib.hid rfl
    obtain ⟨c0, c1⟩ := x0.c2
    obtain ⟨ad, rfl, hab, da⟩ := hS1.int_at hjl
    rw [HF.out] at da
    have hab2 : (ad.add j).block < V.heap.size := by rw [add_block]; exact hab
    have l0 := x0.lt
    have r1 : (0 : Int) ≤ (j : Int) := by omega
    have r2 : (j : Int) < (pat.length : Int) := by omega
    clear hj hdb
    by_cases hx0 : dx = 0
    · have hy0 : ¬ dy = 0 := fun h => h0 ⟨hx0, h⟩
      have q2 : (dy == 0) = false := by simp [hy0]
      subst hx0
      clear h0
      go_enter Tryz.func192, Tryz.ntmps192
      go_wp2_with fail
      rw [HW.out]
      refine wp_region_kept V.heap.size V (by kernel_rfl) (by kernel_rfl) (Below.refl _ _) ?_
      repeat (go_big_quiet_step ((go_at_call 205; exact Kept.same (key _ hK))))
      refine wpQuiet_nil ?_
      rintro w1 ⟨⟨_, hb1⟩, rfl⟩
      go_wp2_with fail
      go_ret
      exact ⟨rfl, after_ hB hb1⟩
    · have q1 : (dx == 0) = false := by simp [hx0]
      clear h0
      go_enter Tryz.func192, Tryz.ntmps192
      go_wp2_with fail
      rw [HW.out]
      refine wp_region_kept V.heap.size V (by kernel_rfl) (by kernel_rfl) (Below.refl _ _) ?_
      repeat (go_big_quiet_step ((go_at_call 205; exact Kept.same (key _ hK))))
      refine wpQuiet_nil ?_
      rintro w1 ⟨⟨_, hb1⟩, rfl⟩
      go_wp2_with fail
      go_ret
      exact ⟨rfl, after_ hB hb1⟩
end Go.Proofs.YtciolgmljpamlaaGreatDoor
end

section
namespace Go.Proofs.YtciolgmljpamlaaGreatDoor
open Go Go.RowKit
set_option maxRecDepth 100000
abbrev stc (s : St) (A : Option Addr) (c : Nat) : Array Value := #[.int .i64 s.id, .int .i64 s.x, .int .i64 s.y, .int .i64 s.pw, .int .i64 s.h, .slice A s.pat.length c, .int .i64 s.band, .int .i64 s.ch]
abbrev stv (s : St) (A : Option Addr) (c : Nat) : Value := .agg (stc s A c)
set_option maxHeartbeats 2000000 in
theorem band_any (ch : Int) (w : World) : Calls Tryz.prog 106 #[.int .i64 ch] w fun e w' => e = .returned (.int .i64 (M.band ch)) ∧ w = w' := by
  by_cases b0 : ch < 2
  · have q0 : decide (ch < 2) = true := decide_eq_true b0
    have HF : Hid ((0 : Int) = M.band ch) := Lib.hid (by unfold M.band; repeat' split; all_goals omega)
    go_enter Tryz.func106, Tryz.ntmps106
    go_wp2_with fail
    go_ret
    exact ⟨ret_int HF.out, rfl⟩
  have q0 : decide (ch < 2) = false := decide_eq_false b0
  by_cases b1 : 51 < ch
  · have q1 : decide (51 < ch) = true := decide_eq_true b1
    have HF : Hid ((0 : Int) = M.band ch) := Lib.hid (by unfold M.band; repeat' split; all_goals omega)
    go_enter Tryz.func106, Tryz.ntmps106
    go_wp2_with fail
    go_ret
    exact ⟨ret_int HF.out, rfl⟩
  have q1 : decide (51 < ch) = false := decide_eq_false b1
  by_cases b2 : ch ≤ 6
  · have q2 : decide (ch ≤ 6) = true := decide_eq_true b2
    have HF : Hid ((1 : Int) = M.band ch) := Lib.hid (by unfold M.band; repeat' split; all_goals omega)
    go_enter Tryz.func106, Tryz.ntmps106
    go_wp2_with fail
    go_ret
    exact ⟨ret_int HF.out, rfl⟩
  have q2 : decide (ch ≤ 6) = false := decide_eq_false b2
  by_cases b3 : ch ≤ 13
  · have q3 : decide (ch ≤ 13) = true := decide_eq_true b3
    have HF : Hid ((2 : Int) = M.band ch) := Lib.hid (by unfold M.band; repeat' split; all_goals omega)
    go_enter Tryz.func106, Tryz.ntmps106
    go_wp2_with fail
    go_ret
    exact ⟨ret_int HF.out, rfl⟩
  have q3 : decide (ch ≤ 13) = false := decide_eq_false b3
  have HF : Hid ((3 : Int) = M.band ch) := Lib.hid (by unfold M.band; repeat' split; all_goals omega)
  go_enter Tryz.func106, Tryz.ntmps106
  go_wp2_with fail
  go_ret
  exact ⟨ret_int HF.out, rfl⟩
set_option maxHeartbeats 2000000 in
theorem rBand_any (ch : Int) (w : World) : Calls Tryz.prog 102 #[.int .i64 ch] w fun e w' => e = .returned (.int .i64 (M.band ch)) ∧ w = w' := by
  by_cases b0 : ch < 2
  · have q0 : decide (ch < 2) = true := decide_eq_true b0
    have HF : Hid ((0 : Int) = M.band ch) := Lib.hid (by unfold M.band; repeat' split; all_goals omega)
    go_enter Tryz.func102, Tryz.ntmps102
    go_wp2_with fail
    go_ret
    exact ⟨ret_int HF.out, rfl⟩
  have q0 : decide (ch < 2) = false := decide_eq_false b0
  by_cases b1 : 51 < ch
  · have q1 : decide (51 < ch) = true := decide_eq_true b1
    have HF : Hid ((0 : Int) = M.band ch) := Lib.hid (by unfold M.band; repeat' split; all_goals omega)
    go_enter Tryz.func102, Tryz.ntmps102
    go_wp2_with fail
    go_ret
    exact ⟨ret_int HF.out, rfl⟩
  have q1 : decide (51 < ch) = false := decide_eq_false b1
  by_cases b2 : ch ≤ 6
  · have q2 : decide (ch ≤ 6) = true := decide_eq_true b2
    have HF : Hid ((1 : Int) = M.band ch) := Lib.hid (by unfold M.band; repeat' split; all_goals omega)
    go_enter Tryz.func102, Tryz.ntmps102
    go_wp2_with fail
    go_ret
    exact ⟨ret_int HF.out, rfl⟩
  have q2 : decide (ch ≤ 6) = false := decide_eq_false b2
  by_cases b3 : ch ≤ 13
  · have q3 : decide (ch ≤ 13) = true := decide_eq_true b3
    have HF : Hid ((2 : Int) = M.band ch) := Lib.hid (by unfold M.band; repeat' split; all_goals omega)
    go_enter Tryz.func102, Tryz.ntmps102
    go_wp2_with fail
    go_ret
    exact ⟨ret_int HF.out, rfl⟩
  have q3 : decide (ch ≤ 13) = false := decide_eq_false b3
  have HF : Hid ((3 : Int) = M.band ch) := Lib.hid (by unfold M.band; repeat' split; all_goals omega)
  go_enter Tryz.func102, Tryz.ntmps102
  go_wp2_with fail
  go_ret
  exact ⟨ret_int HF.out, rfl⟩
theorem M.svalid_not {s : St} (h : ¬ ((0 ≤ s.id ∧ s.id ≤ 511) ∧ (0 ≤ s.x ∧ s.x ≤ 63) ∧ (0 ≤ s.y ∧ s.y ≤ 63) ∧ (0 ≤ s.pw ∧ s.pw ≤ 300) ∧ (2 ≤ s.ch ∧ s.ch ≤ 51) ∧ s.band = M.band s.ch)) : M.svalid s = false := by
  cases hv : M.svalid s with
  | false => rfl
  | true => obtain ⟨a, b, c, d, e, f, _⟩ := M.svalid_iff.1 hv; exact absurd ⟨a, b, c, d, e, f⟩ h
theorem M.svalid_eq {s : St} (h1 : 0 ≤ s.id ∧ s.id ≤ 511) (h2 : 0 ≤ s.x ∧ s.x ≤ 63) (h3 : 0 ≤ s.y ∧ s.y ≤ 63) (h4 : 0 ≤ s.pw ∧ s.pw ≤ 300) (h5 : 2 ≤ s.ch ∧ s.ch ≤ 51) (h6 : s.band = M.band s.ch) : M.svalid s = M.avalid s.h s.pat := by
  rw [Bool.eq_iff_iff, M.svalid_iff]
  exact ⟨fun h => h.2.2.2.2.2.2, fun h => ⟨h1, h2, h3, h4, h5, h6, h⟩⟩
theorem M.svalid_av {s : St} (h : M.avalid s.h s.pat = false) : M.svalid s = false := by
  cases hv : M.svalid s with
  | false => rfl
  | true => have := (M.svalid_iff.1 hv).2.2.2.2.2.2; rw [h] at this; cases this
set_option maxHeartbeats 8000000 in
theorem sValid_any (s : St) (A : Option Addr) (c : Nat) (w : World) (hS : Sl 1 icell w w.heap.size A s.pat) (hl : s.pat.length ≤ 9223372036854775807) :
    Calls Tryz.prog 120 #[stv s A c] w fun e w' => e = .returned (.bool (M.svalid s)) ∧ Below w.heap.size w w' := by
  obtain ⟨V, HW, x0, hB, -⟩ := boxes1 w (stc s A c) 40
  have hS1 := (hS.below hB).more hB.size
  have HN : Hid (¬ ((0 ≤ s.id ∧ s.id ≤ 511) ∧ (0 ≤ s.x ∧ s.x ≤ 63) ∧ (0 ≤ s.y ∧ s.y ≤ 63) ∧ (0 ≤ s.pw ∧ s.pw ≤ 300) ∧ (2 ≤ s.ch ∧ s.ch ≤ 51) ∧ s.band = M.band s.ch) → false = M.svalid s) := Lib.hid (fun h => (M.svalid_not h).symm)
  have HE : Hid (0 ≤ s.id ∧ s.id ≤ 511 → 0 ≤ s.x ∧ s.x ≤ 63 → 0 ≤ s.y ∧ s.y ≤ 63 → 0 ≤ s.pw ∧ s.pw ≤ 300 → 2 ≤ s.ch ∧ s.ch ≤ 51 → s.band = M.band s.ch → M.svalid s = M.avalid s.h s.pat) := Lib.hid M.svalid_eq
  have HA : Hid (M.avalid s.h s.pat = false → false = M.svalid s) := Lib.hid (fun h => (M.svalid_av h).symm)
  obtain ⟨id, x, y, pw, h, pat, bd, ch⟩ := s
  simp only at hS1 hl HN HE HA
  generalize M.svalid ⟨id, x, y, pw, h, pat, bd, ch⟩ = r at *
  obtain ⟨c0, c1, c2, c3, c4, c5, c6, c7⟩ := x0.c8
  have l0 := x0.lt
  by_cases b0 : id < 0
  · have q0 : decide (id < 0) = true := decide_eq_true b0
    have HF := Lib.hid (HN.out (by omega))
    go_enter Tryz.func120, Tryz.ntmps120
    go_wp2_with fail
    go_ret
    exact ⟨ret_bool HF.out, by rw [HW.out]; exact hB⟩
  have q0 : decide (id < 0) = false := decide_eq_false b0
  by_cases b1 : 512 ≤ id
  · have q1 : decide (512 ≤ id) = true := decide_eq_true b1
    have HF := Lib.hid (HN.out (by omega))
    go_enter Tryz.func120, Tryz.ntmps120
    go_wp2_with fail
    go_ret
    exact ⟨ret_bool HF.out, by rw [HW.out]; exact hB⟩
  have q1 : decide (512 ≤ id) = false := decide_eq_false b1
  by_cases b2 : x < 0
  · have q2 : decide (x < 0) = true := decide_eq_true b2
    have HF := Lib.hid (HN.out (by omega))
    go_enter Tryz.func120, Tryz.ntmps120
    go_wp2_with fail
    go_ret
    exact ⟨ret_bool HF.out, by rw [HW.out]; exact hB⟩
  have q2 : decide (x < 0) = false := decide_eq_false b2
  by_cases b3 : 64 ≤ x
  · have q3 : decide (64 ≤ x) = true := decide_eq_true b3
    have HF := Lib.hid (HN.out (by omega))
    go_enter Tryz.func120, Tryz.ntmps120
    go_wp2_with fail
    go_ret
    exact ⟨ret_bool HF.out, by rw [HW.out]; exact hB⟩
  have q3 : decide (64 ≤ x) = false := decide_eq_false b3
  by_cases b4 : y < 0
  · have q4 : decide (y < 0) = true := decide_eq_true b4
    have HF := Lib.hid (HN.out (by omega))
    go_enter Tryz.func120, Tryz.ntmps120
    go_wp2_with fail
    go_ret
    exact ⟨ret_bool HF.out, by rw [HW.out]; exact hB⟩
  have q4 : decide (y < 0) = false := decide_eq_false b4
  by_cases b5 : 64 ≤ y
  · have q5 : decide (64 ≤ y) = true := decide_eq_true b5
    have HF := Lib.hid (HN.out (by omega))
    go_enter Tryz.func120, Tryz.ntmps120
    go_wp2_with fail
    go_ret
    exact ⟨ret_bool HF.out, by rw [HW.out]; exact hB⟩
  have q5 : decide (64 ≤ y) = false := decide_eq_false b5
  by_cases b6 : pw < 0
  · have q6 : decide (pw < 0) = true := decide_eq_true b6
    have HF := Lib.hid (HN.out (by omega))
    go_enter Tryz.func120, Tryz.ntmps120
    go_wp2_with fail
    go_ret
    exact ⟨ret_bool HF.out, by rw [HW.out]; exact hB⟩
  have q6 : decide (pw < 0) = false := decide_eq_false b6
  by_cases b7 : 300 < pw
  · have q7 : decide (300 < pw) = true := decide_eq_true b7
    have HF := Lib.hid (HN.out (by omega))
    go_enter Tryz.func120, Tryz.ntmps120
    go_wp2_with fail
    go_ret
    exact ⟨ret_bool HF.out, by rw [HW.out]; exact hB⟩
  have q7 : decide (300 < pw) = false := decide_eq_false b7
  by_cases b8 : ch < 2
  · have q8 : decide (ch < 2) = true := decide_eq_true b8
    have HF := Lib.hid (HN.out (by omega))
    go_enter Tryz.func120, Tryz.ntmps120
    go_wp2_with fail
    go_ret
    exact ⟨ret_bool HF.out, by rw [HW.out]; exact hB⟩
  have q8 : decide (ch < 2) = false := decide_eq_false b8
  by_cases b9 : 51 < ch
  · have q9 : decide (51 < ch) = true := decide_eq_true b9
    have HF := Lib.hid (HN.out (by omega))
    go_enter Tryz.func120, Tryz.ntmps120
    go_wp2_with fail
    go_ret
    exact ⟨ret_bool HF.out, by rw [HW.out]; exact hB⟩
  have q9 : decide (51 < ch) = false := decide_eq_false b9
  by_cases hb : bd = M.band ch
  · have HF := Lib.hid (HE.out (by omega) (by omega) (by omega) (by omega) (by omega) hb)
    have q : (bd == M.band ch) = true := by simp [hb]
    clear hb
    go_enter Tryz.func120, Tryz.ntmps120
    go_wp2_with fail
    rw [HW.out]
    refine wp_region_kept V.heap.size V (by kernel_rfl) (by kernel_rfl) (Below.refl _ _) ?_
    repeat (go_big_quiet_step ((first | (go_at_call 106; exact Kept.same (band_any ch _)) | (go_at_call 155; exact Kept.calls (Nat.le_refl _) (aValid_any h A c pat _ hS1.kept hl)))))
    refine wpQuiet_nil ?_
    rintro w1 ⟨⟨_, hb1⟩, rfl⟩
    go_wp2_with fail
    go_ret
    exact ⟨ret_bool HF.out.symm, after_ hB hb1⟩
  · have HF := Lib.hid (HN.out (by omega))
    have q : (bd == M.band ch) = false := by simp [hb]
    clear hb
    go_enter Tryz.func120, Tryz.ntmps120
    go_wp2_with fail
    rw [HW.out]
    refine wp_region_kept V.heap.size V (by kernel_rfl) (by kernel_rfl) (Below.refl _ _) ?_
    repeat (go_big_quiet_step ((first | (go_at_call 106; exact Kept.same (band_any ch _)) | (go_at_call 155; exact Kept.calls (Nat.le_refl _) (aValid_any h A c pat _ hS1.kept hl)))))
    refine wpQuiet_nil ?_
    rintro w1 ⟨⟨_, hb1⟩, rfl⟩
    go_wp2_with fail
    go_ret
    exact ⟨ret_bool HF.out, after_ hB hb1⟩
set_option maxHeartbeats 8000000 in
theorem rSValid_any (s : St) (A : Option Addr) (c : Nat) (w : World) (hS : Sl 1 icell w w.heap.size A s.pat) (hl : s.pat.length ≤ 9223372036854775807) :
    Calls Tryz.prog 65 #[stv s A c] w fun e w' => e = .returned (.bool (M.svalid s)) ∧ Below w.heap.size w w' := by
  obtain ⟨V, HW, x0, hB, -⟩ := boxes1 w (stc s A c) 40
  have hS1 := (hS.below hB).more hB.size
  have HN : Hid (¬ ((0 ≤ s.id ∧ s.id ≤ 511) ∧ (0 ≤ s.x ∧ s.x ≤ 63) ∧ (0 ≤ s.y ∧ s.y ≤ 63) ∧ (0 ≤ s.pw ∧ s.pw ≤ 300) ∧ (2 ≤ s.ch ∧ s.ch ≤ 51) ∧ s.band = M.band s.ch) → false = M.svalid s) := Lib.hid (fun h => (M.svalid_not h).symm)
  have HE : Hid (0 ≤ s.id ∧ s.id ≤ 511 → 0 ≤ s.x ∧ s.x ≤ 63 → 0 ≤ s.y ∧ s.y ≤ 63 → 0 ≤ s.pw ∧ s.pw ≤ 300 → 2 ≤ s.ch ∧ s.ch ≤ 51 → s.band = M.band s.ch → M.svalid s = M.avalid s.h s.pat) := Lib.hid M.svalid_eq
  have HA : Hid (M.avalid s.h s.pat = false → false = M.svalid s) := Lib.hid (fun h => (M.svalid_av h).symm)
  obtain ⟨id, x, y, pw, h, pat, bd, ch⟩ := s
  simp only at hS1 hl HN HE HA
  generalize M.svalid ⟨id, x, y, pw, h, pat, bd, ch⟩ = r at *
  obtain ⟨c0, c1, c2, c3, c4, c5, c6, c7⟩ := x0.c8
  have l0 := x0.lt
  by_cases b0 : id < 0
  · have q0 : decide (id < 0) = true := decide_eq_true b0
    have HF := Lib.hid (HN.out (by omega))
    go_enter Tryz.func65, Tryz.ntmps65
    go_wp2_with fail
    go_ret
    exact ⟨ret_bool HF.out, by rw [HW.out]; exact hB⟩
  have q0 : decide (id < 0) = false := decide_eq_false b0
  by_cases b1 : 511 < id
  · have q1 : decide (511 < id) = true := decide_eq_true b1
    have HF := Lib.hid (HN.out (by omega))
    go_enter Tryz.func65, Tryz.ntmps65
    go_wp2_with fail
    go_ret
    exact ⟨ret_bool HF.out, by rw [HW.out]; exact hB⟩
  have q1 : decide (511 < id) = false := decide_eq_false b1
  by_cases b2 : x < 0
  · have q2 : decide (x < 0) = true := decide_eq_true b2
    have HF := Lib.hid (HN.out (by omega))
    go_enter Tryz.func65, Tryz.ntmps65
    go_wp2_with fail
    go_ret
    exact ⟨ret_bool HF.out, by rw [HW.out]; exact hB⟩
  have q2 : decide (x < 0) = false := decide_eq_false b2
  by_cases b3 : 63 < x
  · have q3 : decide (63 < x) = true := decide_eq_true b3
    have HF := Lib.hid (HN.out (by omega))
    go_enter Tryz.func65, Tryz.ntmps65
    go_wp2_with fail
    go_ret
    exact ⟨ret_bool HF.out, by rw [HW.out]; exact hB⟩
  have q3 : decide (63 < x) = false := decide_eq_false b3
  by_cases b4 : y < 0
  · have q4 : decide (y < 0) = true := decide_eq_true b4
    have HF := Lib.hid (HN.out (by omega))
    go_enter Tryz.func65, Tryz.ntmps65
    go_wp2_with fail
    go_ret
    exact ⟨ret_bool HF.out, by rw [HW.out]; exact hB⟩
  have q4 : decide (y < 0) = false := decide_eq_false b4
  by_cases b5 : 63 < y
  · have q5 : decide (63 < y) = true := decide_eq_true b5
    have HF := Lib.hid (HN.out (by omega))
    go_enter Tryz.func65, Tryz.ntmps65
    go_wp2_with fail
    go_ret
    exact ⟨ret_bool HF.out, by rw [HW.out]; exact hB⟩
  have q5 : decide (63 < y) = false := decide_eq_false b5
  by_cases b6 : pw < 0
  · have q6 : decide (pw < 0) = true := decide_eq_true b6
    have HF := Lib.hid (HN.out (by omega))
    go_enter Tryz.func65, Tryz.ntmps65
    go_wp2_with fail
    go_ret
    exact ⟨ret_bool HF.out, by rw [HW.out]; exact hB⟩
  have q6 : decide (pw < 0) = false := decide_eq_false b6
  by_cases b7 : 300 < pw
  · have q7 : decide (300 < pw) = true := decide_eq_true b7
    have HF := Lib.hid (HN.out (by omega))
    go_enter Tryz.func65, Tryz.ntmps65
    go_wp2_with fail
    go_ret
    exact ⟨ret_bool HF.out, by rw [HW.out]; exact hB⟩
  have q7 : decide (300 < pw) = false := decide_eq_false b7
  cases ha : M.avalid h pat with
  | false =>
    have rav : ∀ w1, Sl 1 icell w1 w1.heap.size A pat → Calls Tryz.prog 101 #[av h A pat.length c] w1 fun e w' => e = .returned (.bool false) ∧ Below w1.heap.size w1 w' := fun w1 hh => by have := rAValid_any h A c pat w1 hh hl; rwa [ha] at this
    have HF := Lib.hid (HA.out ha)
    clear ha
    go_enter Tryz.func65, Tryz.ntmps65
    go_wp2_with fail
    rw [HW.out]
    refine wp_region_kept V.heap.size V (by kernel_rfl) (by kernel_rfl) (Below.refl _ _) ?_
    repeat (go_big_quiet_step ((first | (go_at_call 102; exact Kept.same (rBand_any ch _)) | (go_at_call 101; exact Kept.calls (Nat.le_refl _) (rav _ hS1.kept)))))
    refine wpQuiet_nil ?_
    rintro w1 ⟨⟨_, hb1⟩, rfl⟩
    go_wp2_with fail
    go_ret
    exact ⟨ret_bool HF.out, after_ hB hb1⟩
  | true =>
    have rav : ∀ w1, Sl 1 icell w1 w1.heap.size A pat → Calls Tryz.prog 101 #[av h A pat.length c] w1 fun e w' => e = .returned (.bool true) ∧ Below w1.heap.size w1 w' := fun w1 hh => by have := rAValid_any h A c pat w1 hh hl; rwa [ha] at this
    have HAV := Lib.hid ha
    clear ha
    by_cases e1 : 2 ≤ ch
    · have q20 : decide (2 ≤ ch) = true := decide_eq_true e1
      by_cases e2 : ch ≤ 51
      · have q21 : decide (ch ≤ 51) = true := decide_eq_true e2
        by_cases hb : bd = M.band ch
        · have HF := Lib.hid (HE.out (by omega) (by omega) (by omega) (by omega) (by omega) hb)
          have q : (bd == M.band ch) = true := by simp [hb]
          clear hb
          go_enter Tryz.func65, Tryz.ntmps65
          go_wp2_with fail
          rw [HW.out]
          refine wp_region_kept V.heap.size V (by kernel_rfl) (by kernel_rfl) (Below.refl _ _) ?_
          repeat (go_big_quiet_step ((first | (go_at_call 102; exact Kept.same (rBand_any ch _)) | (go_at_call 101; exact Kept.calls (Nat.le_refl _) (rav _ hS1.kept)))))
          refine wpQuiet_nil ?_
          rintro w1 ⟨⟨_, hb1⟩, rfl⟩
          go_wp2_with fail
          go_ret
          exact ⟨ret_bool (by rw [HF.out, HAV.out]), after_ hB hb1⟩
        · have HF := Lib.hid (HN.out (by omega))
          have q : (bd == M.band ch) = false := by simp [hb]
          clear hb
          go_enter Tryz.func65, Tryz.ntmps65
          go_wp2_with fail
          rw [HW.out]
          refine wp_region_kept V.heap.size V (by kernel_rfl) (by kernel_rfl) (Below.refl _ _) ?_
          repeat (go_big_quiet_step ((first | (go_at_call 102; exact Kept.same (rBand_any ch _)) | (go_at_call 101; exact Kept.calls (Nat.le_refl _) (rav _ hS1.kept)))))
          refine wpQuiet_nil ?_
          rintro w1 ⟨⟨_, hb1⟩, rfl⟩
          go_wp2_with fail
          go_ret
          exact ⟨ret_bool HF.out, after_ hB hb1⟩
      · have HF := Lib.hid (HN.out (by omega))
        have q21 : decide (ch ≤ 51) = false := decide_eq_false e2
        go_enter Tryz.func65, Tryz.ntmps65
        go_wp2_with fail
        rw [HW.out]
        refine wp_region_kept V.heap.size V (by kernel_rfl) (by kernel_rfl) (Below.refl _ _) ?_
        repeat (go_big_quiet_step ((first | (go_at_call 102; exact Kept.same (rBand_any ch _)) | (go_at_call 101; exact Kept.calls (Nat.le_refl _) (rav _ hS1.kept)))))
        refine wpQuiet_nil ?_
        rintro w1 ⟨⟨_, hb1⟩, rfl⟩
        go_wp2_with fail
        go_ret
        exact ⟨ret_bool HF.out, after_ hB hb1⟩
    · have HF := Lib.hid (HN.out (by omega))
      have q20 : decide (2 ≤ ch) = false := decide_eq_false e1
      go_enter Tryz.func65, Tryz.ntmps65
      go_wp2_with fail
      rw [HW.out]
      refine wp_region_kept V.heap.size V (by kernel_rfl) (by kernel_rfl) (Below.refl _ _) ?_
      repeat (go_big_quiet_step ((first | (go_at_call 102; exact Kept.same (rBand_any ch _)) | (go_at_call 101; exact Kept.calls (Nat.le_refl _) (rav _ hS1.kept)))))
      refine wpQuiet_nil ?_
      rintro w1 ⟨⟨_, hb1⟩, rfl⟩
      go_wp2_with fail
      go_ret
      exact ⟨ret_bool HF.out, after_ hB hb1⟩
end Go.Proofs.YtciolgmljpamlaaGreatDoor
end
