/- A bundle of texts: ScKnown. -/
import Derived.Test.YtciolgmljpamlaaGreatDoorB29
import Derived.Test.YtciolgmljpamlaaGreatDoorB30
/- The contract of bandplanlaw28.known: it returns true. -/
section
namespace Go.Proofs.YtciolgmljpamlaaGreatDoor
open Go Go.RowKit
set_option maxRecDepth 100000

theorem M.ok_ex : M.okTo [((1 : Int), (3 : Int), (12 : Int)), (7, 2, 8)] 2 := by
  intro i h hi
  match i, h with
  | 0, _ => exact ⟨(by decide : M.wtB 1 3 12 = true), fun h => absurd h (by decide)⟩
  | 1, _ => exact ⟨(by decide : M.wtB 7 2 8 = true), fun _ => (by decide : (1 : Int) < 7)⟩
theorem M.vols_ex : M.vols [((1 : Int), (3 : Int), (12 : Int)), (7, 2, 8)] = [(1, 1000000), (7, 666666)] ∧ M.volsE [((1 : Int), (3 : Int), (12 : Int)), (7, 2, 8)] = 0 := by
  have h := M.okB_true M.ok_ex
  refine ⟨?_, by simp [M.volsE, h]⟩
  unfold M.vols
  rw [if_pos h]
  decide +kernel
theorem M.offs_ex : M.offs 1000000 1000 2 = [600, 350, 0] ∧ M.offsE 1000000 1000 2 = 0 := by decide +kernel

set_option maxHeartbeats 4000000 in
theorem known28_any (w : World) (ht : TabW w) : Calls Tryz.prog 10 #[] w fun e w' => e = .returned (.bool true) ∧ Below w.heap.size w w' := by
  go_enter Tryz.func10, Tryz.ntmps10
  go_wp2_with fail
  refine (root_any 24 _ (by decide) (by decide)).mono ?_
  rintro e w1 ⟨rfl, rfl⟩
  rw [show M.rt 24 = 4 from by decide +kernel]
  go_wp2_with fail
  refine (root_any 25 _ (by decide) (by decide)).mono ?_
  rintro e w1 ⟨rfl, rfl⟩
  rw [show M.rt 25 = 5 from by decide +kernel]
  go_wp2_with fail
  refine (raw_any 0 3 12 _).mono ?_
  rintro e w1 ⟨rfl, hB1⟩
  rw [show M.rawV 0 3 12 = 6 from by decide +kernel, show M.wtE 0 3 12 = 0 from by decide +kernel]
  have t1 := ht.kept hB1
  go_wp2_with fail
  have hS : Sl 3 wcell (w1.alloc (.cells #[.int .i64 1, .int .i64 3, .int .i64 12, .int .i64 7, .int .i64 2, .int .i64 8] 46)) (w1.alloc (.cells #[.int .i64 1, .int .i64 3, .int .i64 12, .int .i64 7, .int .i64 2, .int .i64 8] 46)).heap.size (some ⟨w1.heap.size, 0, none⟩) [((1 : Int), (3 : Int), (12 : Int)), (7, 2, 8)] :=
    Sl.of_new rfl
  have hB2 := hB1.alloc hB1.size (.cells #[.int .i64 1, .int .i64 3, .int .i64 12, .int .i64 7, .int .i64 2, .int .i64 8] 46)
  generalize w1.alloc (.cells #[.int .i64 1, .int .i64 3, .int .i64 12, .int .i64 7, .int .i64 2, .int .i64 8] 46) = w2 at *
  refine (volumes_any _ 2 _ _ hS (by decide)).mono ?_
  rintro e w3 ⟨A, c, rfl, hS3, hB3⟩
  rw [M.vols_ex.1, M.vols_ex.2] at *
  have b3 := after_ hB2 hB3
  have t3 := ht.kept b3
  clear hS hB2 hB3 t1 hB1
  go_wp2_with fail
  refine (offer_any _ _ _ _ _ t3).mono ?_
  rintro e w4 ⟨rfl, hB4⟩
  rw [show M.offV 500000 900 3 1 = 337 from by decide +kernel, show M.offE 500000 900 3 1 = 0 from by decide +kernel]
  have b4 := after_ b3 hB4
  have t4 := ht.kept b4
  have hS4 := hS3.below hB4
  go_wp2_with fail
  refine (offers_any _ _ _ _ t4).mono ?_
  rintro e w5 ⟨A', c', rfl, hS5, hB5⟩
  rw [M.offs_ex.1, M.offs_ex.2] at *
  have b5 := after_ b4 hB5
  have hS6 := (hS4.more hB4.size).below hB5
  have hB5s := hB5.size
  clear hS3 hS4 hB4 hB5 b3 b4 t3 t4
  go_wp2_with fail
  have hS7 : Sl 2 vcellW (w5.alloc (.cells #[.int .i64 1, .int .i64 1000000, .int .i64 7, .int .i64 666666] 82)) (w5.alloc (.cells #[.int .i64 1, .int .i64 1000000, .int .i64 7, .int .i64 666666] 82)).heap.size (some ⟨w5.heap.size, 0, none⟩) [((1 : Int), (1000000 : Int)), (7, 666666)] :=
    Sl.of_new rfl
  have hS8 := (hS6.more hB5s).alloc (Nat.le_refl _) (.cells #[.int .i64 1, .int .i64 1000000, .int .i64 7, .int .i64 666666] 82)
  refine (sameVolumes_any _ _ _ 2 _ _ [((1 : Int), (1000000 : Int)), (7, 666666)] _ (hS8.more (by simp)) hS7 (by decide)).mono ?_
  rintro e w6 ⟨rfl, n, rfl⟩
  rw [decide_eq_true rfl]
  have b6 := below_drewN (b5.alloc b5.size (.cells #[.int .i64 1, .int .i64 1000000, .int .i64 7, .int .i64 666666] 82)) n
  have hS9 := ((hS5.alloc (Nat.le_refl _) (.cells #[.int .i64 1, .int .i64 1000000, .int .i64 7, .int .i64 666666] 82)).more (B' := ((w5.alloc (.cells #[.int .i64 1, .int .i64 1000000, .int .i64 7, .int .i64 666666] 82)).drewN n).heap.size) (by simp)).drewN n
  clear hS7 hS8 hS6 hS5
  generalize (w5.alloc (.cells #[.int .i64 1, .int .i64 1000000, .int .i64 7, .int .i64 666666] 82)).drewN n = w7 at *
  go_wp2_with fail
  have hSa : Sl 1 icell (w7.alloc (.cells #[.int .i64 600, .int .i64 350, .int .i64 0] 3)) (w7.alloc (.cells #[.int .i64 600, .int .i64 350, .int .i64 0] 3)).heap.size (some ⟨w7.heap.size, 0, none⟩) [(600 : Int), 350, 0] := Sl.of_new rfl
  have hSb := (hS9.alloc (Nat.le_refl _) (.cells #[.int .i64 600, .int .i64 350, .int .i64 0] 3)).more (B' := (w7.alloc (.cells #[.int .i64 600, .int .i64 350, .int .i64 0] 3)).heap.size) (by simp)
  refine (sameInts_any _ _ _ 3 _ _ [(600 : Int), 350, 0] _ hSb hSa (by decide)).mono ?_
  rintro e w8 ⟨rfl, m, rfl⟩
  rw [decide_eq_true rfl]
  have b8 := below_drewN (b6.alloc b6.size (.cells #[.int .i64 600, .int .i64 350, .int .i64 0] 3)) m
  go_wp2_with fail
  go_ret
  exact ⟨rfl, b8⟩
end Go.Proofs.YtciolgmljpamlaaGreatDoor
end
