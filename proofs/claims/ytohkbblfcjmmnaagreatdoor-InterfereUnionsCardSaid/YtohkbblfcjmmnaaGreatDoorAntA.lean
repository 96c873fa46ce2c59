import Derived.Test.YtohkbblfcjmmnaaGreatDoorAnt
import Derived.Test.YtohkbblfcjmmnaaGreatDoorStep
/- Layer 12: Valid, Loss, Equal, Copy of antennas, and the reference's. -/
namespace Go.Proofs.YtohkbblfcjmmnaaGreatDoor
open Go Go.RowKit
set_option maxRecDepth 100000

theorem M.avalid_at {h : Int} {pat : List Int} {k : Nat} (hk : k < pat.length) (hn : ¬ (0 ≤ pat[k] ∧ pat[k] ≤ 80)) : M.avalid h pat = false := by
  cases hv : M.avalid h pat with
  | false => rfl
  | true => exact absurd ((M.avalid_iff.1 hv).2.2 _ (List.getElem_mem hk)) hn
theorem M.avalid_all {h : Int} {pat : List Int} (h1 : 1 ≤ h ∧ h ≤ 500) (h2 : pat.length = 16) (h3 : ∀ k (hk : k < pat.length), 0 ≤ pat[k] ∧ pat[k] ≤ 80) : M.avalid h pat = true := by
  refine M.avalid_iff.2 ⟨h1, h2, fun g hg => ?_⟩
  obtain ⟨i, hi, rfl⟩ := List.getElem_of_mem hg
  exact h3 i hi
theorem M.avalid_no {h : Int} {pat : List Int} (hn : ¬ ((1 ≤ h ∧ h ≤ 500) ∧ pat.length = 16)) : M.avalid h pat = false := by
  cases hv : M.avalid h pat with
  | false => rfl
  | true => obtain ⟨a, b, _⟩ := M.avalid_iff.1 hv; exact absurd ⟨a, b⟩ hn

set_option maxHeartbeats 4000000 in
theorem aValid_any (h : Int) (A : Option Addr) (c : Nat) (pat : List Int) (w : World) (hS : Sl 1 icell w w.heap.size A pat) (hl : pat.length ≤ 9223372036854775806) :
    Calls Tryz.prog 60 #[av h A pat.length c] w fun e w' => e = .returned (.bool (M.avalid h pat)) ∧ Below w.heap.size w w' := by
  obtain ⟨V, HW, x0, hB, -⟩ := boxes1 w #[.int .i64 h, .slice A pat.length c] 26
  have hS1 := (hS.below hB).more hB.size
  by_cases hr : (1 ≤ h ∧ h ≤ 500) ∧ pat.length = 16
  · obtain ⟨a1, a2⟩ := hr
    have q1 : decide (h < 1) = false := by simp; omega
    have q2 : decide (500 < h) = false := by simp; omega
    have q3 : ((pat.length : Int) != 16) = false := by rw [a2]; rfl
    have HL := Lib.hid a2
    have hl16 : pat.length ≤ 16 := by omega
    clear a2
    obtain ⟨c0, c1⟩ := x0.c2
    go_enter Tryz.func60, Tryz.ntmps60
    go_wp2_with fail
    rw [HW.out]
    go_loop [4, 22] (fun _ i => ∃ k : Nat, k ≤ pat.length ∧ i = .int .i64 k ∧ Hid (∀ j (hj : j < pat.length), j < k → 0 ≤ pat[j] ∧ pat[j] ≤ 80)) (fun _ i => pat.length - (intOf i).toNat)
    case atStart => exact ⟨0, Nat.zero_le _, rfl, Lib.hid (fun j _ h => absurd h (by omega))⟩
    case round =>
      clear q1 q2 q3
      obtain ⟨k, hk, rfl, HK⟩ := hrel
      by_cases hlt : k < pat.length
      · have hk16 : k < 16 := by have := HL.out; omega
        obtain ⟨ga, rfl, hgb, e0⟩ := hS1.int_at hlt
        have HA : Hid (¬ (0 ≤ pat[k] ∧ pat[k] ≤ 80) → false = M.avalid h pat) := Lib.hid (fun h => (M.avalid_at hlt h).symm)
        have HK2 : Hid (0 ≤ pat[k] ∧ pat[k] ≤ 80 → ∀ j (hj : j < pat.length), j < k + 1 → 0 ≤ pat[j] ∧ pat[j] ≤ 80) := Lib.hid (fun h j h1 h3 => by
          by_cases e : j = k
          · subst e; exact h
          · exact HK.out j h1 (by omega))
        generalize pat[k] = g at *
        by_cases b1 : g < 0
        · have b1' : decide (g < 0) = true := decide_eq_true b1
          go_wp2_with fail
          go_ret
          exact ⟨ret_bool (HA.out (by omega)), hB⟩
        · have b1' : decide (g < 0) = false := decide_eq_false b1
          by_cases b2 : 80 < g
          · have b2' : decide (80 < g) = true := decide_eq_true b2
            go_wp2_with fail
            go_ret
            exact ⟨ret_bool (HA.out (by omega)), hB⟩
          · have b2' : decide (80 < g) = false := decide_eq_false b2
            have hok : 0 ≤ g ∧ g ≤ 80 := by omega
            clear b1 b2
            go_wp2_with fail
            go_round
            case rel => exact ⟨k + 1, hlt, by go_num, Lib.hid (HK2.out hok)⟩
            case measure => simp [intOf]; omega
      · have hkl : k = pat.length := by omega
        have HF : Hid (true = M.avalid h pat) := Lib.hid (M.avalid_all a1 HL.out (fun j hj => HK.out j hj (by omega))).symm
        have hk16 : (16 : Int) ≤ (k : Int) := by have := HL.out; omega
        have hk17 : ¬ k < 16 := by omega
        clear hkl
        go_wp2_with fail
        go_ret
        exact ⟨ret_bool HF.out, hB⟩
  · have HF : Hid (false = M.avalid h pat) := Lib.hid (M.avalid_no hr).symm
    by_cases b1 : h < 1
    · have q1 : decide (h < 1) = true := decide_eq_true b1
      clear hr
      go_enter Tryz.func60, Tryz.ntmps60
      go_wp2_with fail
      go_ret
      exact ⟨ret_bool HF.out, by rw [HW.out]; exact hB⟩
    · have q1 : decide (h < 1) = false := decide_eq_false b1
      by_cases b2 : 500 < h
      · have q2 : decide (500 < h) = true := decide_eq_true b2
        clear hr
        go_enter Tryz.func60, Tryz.ntmps60
        go_wp2_with fail
        go_ret
        exact ⟨ret_bool HF.out, by rw [HW.out]; exact hB⟩
      · have q2 : decide (500 < h) = false := decide_eq_false b2
        have q3 : ((pat.length : Int) != 16) = true := by
          rw [bne_iff_ne]; intro e; exact hr ⟨by omega, by omega⟩
        clear hr
        go_enter Tryz.func60, Tryz.ntmps60
        go_wp2_with fail
        go_ret
        exact ⟨ret_bool HF.out, by rw [HW.out]; exact hB⟩


set_option maxHeartbeats 4000000 in
theorem rAValid_any (h : Int) (A : Option Addr) (c : Nat) (pat : List Int) (w : World) (hS : Sl 1 icell w w.heap.size A pat) (hl : pat.length ≤ 9223372036854775806) :
    Calls Tryz.prog 53 #[av h A pat.length c] w fun e w' => e = .returned (.bool (M.avalid h pat)) ∧ Below w.heap.size w w' := by
  obtain ⟨V, HW, x0, hB, -⟩ := boxes1 w #[.int .i64 h, .slice A pat.length c] 26
  have hS1 := (hS.below hB).more hB.size
  by_cases hr : (1 ≤ h ∧ h ≤ 500) ∧ pat.length = 16
  · obtain ⟨a1, a2⟩ := hr
    have q1 : decide (h < 1) = false := by simp; omega
    have q2 : decide (500 < h) = false := by simp; omega
    have q3 : ((pat.length : Int) != 16) = false := by rw [a2]; rfl
    have HL := Lib.hid a2
    have hl16 : pat.length ≤ 16 := by omega
    clear a2
    obtain ⟨c0, c1⟩ := x0.c2
    go_enter Tryz.func53, Tryz.ntmps53
    go_wp2_with fail
    rw [HW.out]
    go_loop [3] (fun i => ∃ k : Nat, k ≤ pat.length ∧ i = .int .i64 k ∧ Hid (∀ j (hj : j < pat.length), j < k → 0 ≤ pat[j] ∧ pat[j] ≤ 80)) (fun i => pat.length - (intOf i).toNat)
    case atStart => exact ⟨0, Nat.zero_le _, rfl, Lib.hid (fun j _ h => absurd h (by omega))⟩
    case round =>
      clear q1 q2 q3
      obtain ⟨k, hk, rfl, HK⟩ := hrel
      by_cases hlt : k < pat.length
      · have hk16 : k < 16 := by have := HL.out; omega
        obtain ⟨ga, rfl, hgb, e0⟩ := hS1.int_at hlt
        have HA : Hid (¬ (0 ≤ pat[k] ∧ pat[k] ≤ 80) → false = M.avalid h pat) := Lib.hid (fun h => (M.avalid_at hlt h).symm)
        have HK2 : Hid (0 ≤ pat[k] ∧ pat[k] ≤ 80 → ∀ j (hj : j < pat.length), j < k + 1 → 0 ≤ pat[j] ∧ pat[j] ≤ 80) := Lib.hid (fun h j h1 h3 => by
          by_cases e : j = k
          · subst e; exact h
          · exact HK.out j h1 (by omega))
        generalize pat[k] = g at *
        by_cases b1 : g < 0
        · have b1' : decide (g < 0) = true := decide_eq_true b1
          go_wp2_with fail
          go_ret
          exact ⟨ret_bool (HA.out (by omega)), hB⟩
        · have b1' : decide (g < 0) = false := decide_eq_false b1
          by_cases b2 : 80 < g
          · have b2' : decide (80 < g) = true := decide_eq_true b2
            go_wp2_with fail
            go_ret
            exact ⟨ret_bool (HA.out (by omega)), hB⟩
          · have b2' : decide (80 < g) = false := decide_eq_false b2
            have hok : 0 ≤ g ∧ g ≤ 80 := by omega
            clear b1 b2
            go_wp2_with fail
            go_round
            case rel => exact ⟨k + 1, hlt, by go_num, Lib.hid (HK2.out hok)⟩
            case measure => simp [intOf]; omega
      · have hkl : k = pat.length := by omega
        have HF : Hid (true = M.avalid h pat) := Lib.hid (M.avalid_all a1 HL.out (fun j hj => HK.out j hj (by omega))).symm
        have hk16 : (16 : Int) ≤ (k : Int) := by have := HL.out; omega
        have hk17 : ¬ k < 16 := by omega
        clear hkl
        go_wp2_with fail
        go_ret
        exact ⟨ret_bool HF.out, hB⟩
  · have HF : Hid (false = M.avalid h pat) := Lib.hid (M.avalid_no hr).symm
    by_cases b1 : h < 1
    · have q1 : decide (h < 1) = true := decide_eq_true b1
      clear hr
      go_enter Tryz.func53, Tryz.ntmps53
      go_wp2_with fail
      go_ret
      exact ⟨ret_bool HF.out, by rw [HW.out]; exact hB⟩
    · have q1 : decide (h < 1) = false := decide_eq_false b1
      by_cases b2 : 500 < h
      · have q2 : decide (500 < h) = true := decide_eq_true b2
        clear hr
        go_enter Tryz.func53, Tryz.ntmps53
        go_wp2_with fail
        go_ret
        exact ⟨ret_bool HF.out, by rw [HW.out]; exact hB⟩
      · have q2 : decide (500 < h) = false := decide_eq_false b2
        have q3 : ((pat.length : Int) != 16) = true := by
          rw [bne_iff_ne]; intro e; exact hr ⟨by omega, by omega⟩
        clear hr
        go_enter Tryz.func53, Tryz.ntmps53
        go_wp2_with fail
        go_ret
        exact ⟨ret_bool HF.out, by rw [HW.out]; exact hB⟩

end Go.Proofs.YtohkbblfcjmmnaaGreatDoor

/- Layer 12: Loss, Equal, Copy of antennas, and the reference's. -/
namespace Go.Proofs.YtohkbblfcjmmnaaGreatDoor
open Go Go.RowKit
set_option maxRecDepth 100000

set_option maxHeartbeats 4000000 in
theorem aLoss_ok (h : Int) (A : Option Addr) (c : Nat) (pat : List Int) (dx dy : Int) (w : World) (ht : Tab w) (hS : Sl 1 icell w w.heap.size A pat) (hv : M.avalid h pat = true) (hx : -100 ≤ dx ∧ dx ≤ 100) (hy : -100 ≤ dy ∧ dy ≤ 100) :
    Calls Tryz.prog 64 #[av h A pat.length c, .int .i64 dx, .int .i64 dy] w fun e w' => e = .returned (.tuple #[.int .i64 (M.aloss pat dx dy), .int .i64 0]) ∧ Below w.heap.size w w' := by
  obtain ⟨V, HW, x0, hB, -⟩ := boxes1 w #[.int .i64 h, .slice A pat.length c] 26
  have hS1 := (hS.below hB).more hB.size
  obtain ⟨-, hl, -⟩ := M.avalid_iff.1 hv
  have HL := Lib.hid hl
  have hl2 : pat.length ≤ 16 := by omega
  have HV := Lib.hid hv
  clear hl hv
  by_cases h0 : dx = 0 ∧ dy = 0
  · obtain ⟨rfl, rfl⟩ := h0
    have HF := Lib.hid (M.aloss_zero pat)
    go_enter Tryz.func64, Tryz.ntmps64
    go_wp2_with fail
    rw [HW.out]
    refine (aValid_any h A c pat V hS1 (by omega)).mono ?_
    rintro e w1 ⟨rfl, hb1⟩
    rw [HV.out]
    go_wp2_with fail
    go_ret2
    exact ⟨ret_int2 HF.out.symm rfl, after_ hB hb1⟩
  · have hdb := M.dir_bd dx dy
    obtain ⟨j, hj⟩ := Int.eq_ofNat_of_zero_le hdb.1
    have hjl : j < pat.length := by have := HL.out; omega
    have HF := Lib.hid (M.aloss_at h0 hj hjl)
    have HJ := Lib.hid hj
    have H0 := Lib.hid h0
    clear hj hdb
    have key : ∀ w1, Tab w1 → Below w.heap.size w w1 → Box w1 w.heap.size #[.int .i64 h, .slice A pat.length c] 26 → Sl 1 icell w1 w1.heap.size A pat → Calls Tryz.prog 76 #[.int .i64 dx, .int .i64 dy] w1 fun e w' => e = .returned (.tuple #[.int .i64 (j : Int), .int .i64 0]) ∧ Below w1.heap.size w1 w' := by
      intro w1 t1 _ _ _
      have := direction_ok dx dy w1 t1 hx hy H0.out
      rwa [HJ.out] at this
    by_cases hx0 : dx = 0
    · have hy0 : ¬ dy = 0 := fun h => h0 ⟨hx0, h⟩
      have q2 : (dy == 0) = false := by simp [hy0]
      subst hx0
      clear h0
      go_enter Tryz.func64, Tryz.ntmps64
      go_wp2_with fail
      rw [HW.out]
      refine (aValid_any h A c pat V hS1 (by omega)).mono ?_
      rintro e w1 ⟨rfl, hb1⟩
      rw [HV.out]
      have B1 := after_ hB hb1
      go_wp2_with fail
      refine (key w1 (ht.kept B1) B1 (x0.below hb1) ((hS1.below hb1).more hb1.size)).mono ?_
      rintro e w2 ⟨rfl, hb2⟩
      obtain ⟨c0, c1⟩ := ((x0.below hb1).below hb2).c2
      obtain ⟨ad, rfl, hab, da⟩ := ((((hS1.below hb1).more hb1.size).below hb2).more hb2.size).int_at hjl
      rw [HF.out] at da
      go_wp2_with fail
      go_ret2
      exact ⟨rfl, after_ B1 hb2⟩
    · have q1 : (dx == 0) = false := by simp [hx0]
      clear h0
      go_enter Tryz.func64, Tryz.ntmps64
      go_wp2_with fail
      rw [HW.out]
      refine (aValid_any h A c pat V hS1 (by omega)).mono ?_
      rintro e w1 ⟨rfl, hb1⟩
      rw [HV.out]
      have B1 := after_ hB hb1
      go_wp2_with fail
      refine (key w1 (ht.kept B1) B1 (x0.below hb1) ((hS1.below hb1).more hb1.size)).mono ?_
      rintro e w2 ⟨rfl, hb2⟩
      obtain ⟨c0, c1⟩ := ((x0.below hb1).below hb2).c2
      obtain ⟨ad, rfl, hab, da⟩ := ((((hS1.below hb1).more hb1.size).below hb2).more hb2.size).int_at hjl
      rw [HF.out] at da
      go_wp2_with fail
      go_ret2
      exact ⟨rfl, after_ B1 hb2⟩

def RetAnt (w : World) (h : Int) (pat : List Int) (e : Ending) (w' : World) : Prop :=
  ∃ A c, e = .returned (av h A pat.length c) ∧ w'.ownsRow w.heap.size 3 1 (.slice A pat.length c) pat.length (flat 1 icell pat) ∧ Below w.heap.size w w'

end Go.Proofs.YtohkbblfcjmmnaaGreatDoor
namespace Go.Proofs.YtohkbblfcjmmnaaGreatDoor
open Go Go.RowKit
end Go.Proofs.YtohkbblfcjmmnaaGreatDoor