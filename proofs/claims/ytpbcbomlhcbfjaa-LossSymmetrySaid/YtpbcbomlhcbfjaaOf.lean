/- The contract of number.Of at numbers from 0 on. -/
import Derived.Test.YtpbcbomlhcbfjaaBuild
namespace Go.Proofs.Ytpbcbomlhcbfjaa
open Go Go.RowKit

theorem M.trm_two {n : Nat} (h : n < 18446744073709551616) : M.trm [n % 4294967296, n / 4294967296] = M.wds n := by
  rw [M.trm_wds (by intro d hd; simp at hd; omega)]
  simp only [M.val]
  congr 1
  omega

set_option maxHeartbeats 2000000 in
theorem of_ok (n : Nat) (w : World) (hn : n ≤ 9223372036854775807) : Calls Try.prog 24 #[.int .i64 (n : Int)] w (RetI1 w n) := by
  have hB0 := (Below.refl w.heap.size w).alloc (Nat.le_refl _) (.cells #[.bool false, .slice none 0 0] 48)
  have s0 : Hid ((w.alloc (.cells #[.bool false, .slice none 0 0] 48)).heap.size = w.heap.size + 1) := Lib.hid (by simp)
  have k0 : Hid ((w.alloc (.cells #[.bool false, .slice none 0 0] 48)).heap[w.heap.size]? = some (.cells #[.bool false, .slice none 0 0] 48 (0, 0))) := Lib.hid (heap_alloc_new w _)
  have hneg : decide ((n : Int) < 0) = false := by simp
  go_enter Try.func24, Try.ntmps24
  go_wp2_with fail
  generalize w.alloc (.cells #[.bool false, .slice none 0 0] 48) = W at *
  have e1 : (n : Int) % 4294967296 = ((n % 4294967296 : Nat) : Int) := by rw [Int.natCast_emod]; rfl
  have e2 : (n : Int) / 4294967296 = ((n / 4294967296 : Nat) : Int) := by rw [Int.natCast_ediv]; rfl
  rw [e1, e2]
  clear e1 e2
  have hS0 : Sl 1 wc (W.alloc (.cells #[.int .u32 ((n % 4294967296 : Nat) : Int), .int .u32 ((n / 4294967296 : Nat) : Int)] 73)) (W.alloc (.cells #[.int .u32 ((n % 4294967296 : Nat) : Int), .int .u32 ((n / 4294967296 : Nat) : Int)] 73)).heap.size (some ⟨W.heap.size, 0, none⟩) [n % 4294967296, n / 4294967296] := Sl.of_new rfl
  have hB1 := hB0.alloc hB0.size (.cells #[.int .u32 ((n % 4294967296 : Nat) : Int), .int .u32 ((n / 4294967296 : Nat) : Int)] 73)
  have k1 : Hid ((W.alloc (.cells #[.int .u32 ((n % 4294967296 : Nat) : Int), .int .u32 ((n / 4294967296 : Nat) : Int)] 73)).heap[w.heap.size]? = some (.cells #[.bool false, .slice none 0 0] 48 (0, 0))) := Lib.hid ((Below.heap_alloc W _ _ (by have := s0.out; omega)).trans k0.out)
  have s1 : w.heap.size < (W.alloc (.cells #[.int .u32 ((n % 4294967296 : Nat) : Int), .int .u32 ((n / 4294967296 : Nat) : Int)] 73)).heap.size := by have := s0.out; simp; omega
  generalize W.alloc (.cells #[.int .u32 ((n % 4294967296 : Nat) : Int), .int .u32 ((n / 4294967296 : Nat) : Int)] 73) = V at *
  rw [s0.out] at hS0
  refine (trim_any (some ⟨w.heap.size + 1, 0, none⟩) 2 _ [n % 4294967296, n / 4294967296] V hS0 (by simp) (by omega)).mono ?_
  rintro e w1 ⟨rfl, h2, rfl⟩
  rw [M.trm_two (by omega)] at h2 ⊢
  have hSw : Sl 1 wc V V.heap.size (some ⟨w.heap.size + 1, 0, none⟩) (M.wds n) := by rw [h2]; exact hS0.take _
  clear h2 hS0
  have hbl : M.bl n ≤ 512 := by
    have : M.bl n ≤ 64 := M.bl_le.2 (by have : (9223372036854775807 : Nat) < 2 ^ 64 := by decide
                                        omega)
    omega
  go_wp2_with fail
  refine (build_ok _ 2 n V hSw hbl).mono ?_
  rintro e w2 ⟨v, rfl, ⟨A2, c2, rfl, hfr, hS2⟩, hb2⟩
  have hbb := after_ hB1 hb2
  have k2 := (hb2.block w.heap.size s1).trans k1.out
  have c0 : w2.cell? ⟨w.heap.size, 0, none⟩ = some (.bool false) := by rw [cell_of_row _ _ _ _ _ _ k2]; rfl
  have c1 : w2.cell? ⟨w.heap.size, 1, none⟩ = some (.slice none 0 0) := by rw [cell_of_row _ _ _ _ _ _ k2]; rfl
  have z0 : w2.frozen? ⟨w.heap.size, 0, none⟩ = false := frozen_of_row _ _ _ _ _ k2
  have z1 : w2.frozen? ⟨w.heap.size, 1, none⟩ = false := frozen_of_row _ _ _ _ _ k2
  have hlt : w.heap.size < w2.heap.size := Nat.lt_of_lt_of_le s1 hb2.size
  have hne : Hid (∀ ad, A2 = some ad → ad.block ≠ w.heap.size ∧ w.heap.size ≤ ad.block) := Lib.hid (fun ad h => by have := hfr ad h; omega)
  clear k2 hfr hb2 hSw hB1 hB0
  go_wp2_with fail
  have r0 : (((w2.setCell ⟨w.heap.size, 0, none⟩ (.bool false)).setCell ⟨w.heap.size, 1, none⟩ (.slice A2 (M.byt n).length c2)).alloc (.cells #[.bool false, .slice A2 (M.byt n).length c2] 48)).cell? ⟨w.heap.size, 0, none⟩ = some (.bool false) := by
    rw [World.cell?_alloc_lt _ _ _ (by simpa using hlt)]; simp [go_sem, c0]
  have r1 : (((w2.setCell ⟨w.heap.size, 0, none⟩ (.bool false)).setCell ⟨w.heap.size, 1, none⟩ (.slice A2 (M.byt n).length c2)).alloc (.cells #[.bool false, .slice A2 (M.byt n).length c2] 48)).cell? ⟨w.heap.size, 1, none⟩ = some (.slice A2 (M.byt n).length c2) := by
    rw [World.cell?_alloc_lt _ _ _ (by simpa using hlt)]; simp [go_sem, c1]
  have hfin := ((hbb.setCell (p := ⟨w.heap.size, 0, none⟩) (Nat.le_refl _) (.bool false)).setCell (p := ⟨w.heap.size, 1, none⟩) (Nat.le_refl _) (.slice A2 (M.byt n).length c2)).alloc (by simpa using hbb.size) (.cells #[.bool false, .slice A2 (M.byt n).length c2] 48)
  have hSf : Sl 1 bc (((w2.setCell ⟨w.heap.size, 0, none⟩ (.bool false)).setCell ⟨w.heap.size, 1, none⟩ (.slice A2 (M.byt n).length c2)).alloc (.cells #[.bool false, .slice A2 (M.byt n).length c2] 48)) (((w2.setCell ⟨w.heap.size, 0, none⟩ (.bool false)).setCell ⟨w.heap.size, 1, none⟩ (.slice A2 (M.byt n).length c2)).alloc (.cells #[.bool false, .slice A2 (M.byt n).length c2] 48)).heap.size A2 (M.byt n) :=
    ((((hS2.setFar (p := ⟨w.heap.size, 0, none⟩) (fun ad h => (hne.out ad h).1) (.bool false)).setFar (p := ⟨w.heap.size, 1, none⟩) (fun ad h => (hne.out ad h).1) (.slice A2 (M.byt n).length c2))).alloc (by simp) _).more (by simp)
  generalize ((w2.setCell ⟨w.heap.size, 0, none⟩ (.bool false)).setCell ⟨w.heap.size, 1, none⟩ (.slice A2 (M.byt n).length c2)).alloc (.cells #[.bool false, .slice A2 (M.byt n).length c2] 48) = F at *
  refine bodyPost_ret (v := .agg #[.bool false, .slice A2 (M.byt n).length c2]) ?_ rfl ?_
  · simp [results, Try.results24, go_sem, r0, r1]
  · exact ⟨_, rfl, ⟨A2, c2, rfl, fun ad h => (hne.out ad h).2, hSf⟩, hfin⟩
end Go.Proofs.Ytpbcbomlhcbfjaa
