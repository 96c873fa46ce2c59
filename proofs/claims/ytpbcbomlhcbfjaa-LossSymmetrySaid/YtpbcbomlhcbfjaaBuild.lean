/- The contracts of number.build and number.Of at numbers from 0 on. -/
import Derived.Test.YtpbcbomlhcbfjaaDigits
import Derived.Test.YtpbcbomlhcbfjaaMul
namespace Go.Proofs.Ytpbcbomlhcbfjaa
open Go Go.RowKit

/-- An Int that is not negative, as a value: its digits lie in memory, in a block from base on. -/
def IsInt (w : World) (base n : Nat) (v : Value) : Prop := ∃ A c, v = .agg #[.bool false, .slice A (M.byt n).length c] ∧ (∀ ad, A = some ad → base ≤ ad.block) ∧ Sl 1 bc w w.heap.size A (M.byt n)
def RetI (w : World) (n : Nat) (e : Ending) (w' : World) : Prop := ∃ v, e = .returned (.tuple #[v, .int .i64 0]) ∧ IsInt w' w.heap.size n v ∧ Below w.heap.size w w'
def RetI1 (w : World) (n : Nat) (e : Ending) (w' : World) : Prop := ∃ v, e = .returned v ∧ IsInt w' w.heap.size n v ∧ Below w.heap.size w w'
theorem IsInt.kept {w w' : World} {base n : Nat} {v : Value} (h : IsInt w base n v) (hb : Below w.heap.size w w') : IsInt w' base n v := by
  obtain ⟨A, c, rfl, hf, hS⟩ := h
  exact ⟨A, c, rfl, hf, (hS.below hb).more hb.size⟩

theorem M.pow_gen {n k : Nat} (h : n < 2 ^ (32 * k)) : n < 4294967296 ^ k := by rw [Nat.pow_mul] at h; exact h
theorem M.wds_bl {n k : Nat} (h : M.bl n ≤ 32 * k) : (M.wds n).length ≤ k := M.wds_len.2 (M.pow_gen (M.bl_le.1 h))

set_option maxHeartbeats 2000000 in
theorem build_ok (A : Option Addr) (c : Nat) (n : Nat) (w : World) (ha : Sl 1 wc w w.heap.size A (M.wds n)) (hn : M.bl n ≤ 512) :
    Calls Try.prog 38 #[.bool false, .slice A (M.wds n).length c] w (RetI w n) := by
  have hl : (M.wds n).length ≤ 16 := M.wds_bl (by omega)
  have hB0 := (Below.refl w.heap.size w).alloc (Nat.le_refl _) (.cells #[.bool false, .slice none 0 0] 48)
  have ha0 := ha.alloc (Nat.le_refl _) (.cells #[.bool false, .slice none 0 0] 48)
  go_enter Try.func38, Try.ntmps38
  go_wp2_with fail
  refine (size_any A c _ n _ ha0 (by omega)).mono ?_
  rintro e w1 ⟨rfl, rfl⟩
  generalize M.bl n = b at *
  go_wp2_with fail
  have s0 : w.heap.size < (w.alloc (.cells #[.bool false, .slice none 0 0] 48)).heap.size := by simp
  have k0 : (w.alloc (.cells #[.bool false, .slice none 0 0] 48)).heap[w.heap.size]? = some (.cells #[.bool false, .slice none 0 0] 48 (0, 0)) := heap_alloc_new w _
  generalize w.alloc (.cells #[.bool false, .slice none 0 0] 48) = W at *
  refine (digits_any A c n _ (ha0.more (by omega)) (by omega)).mono ?_
  rintro e w2 ⟨A2, c2, rfl, h1, h2, hfr, hS, hb2⟩
  have k1 := (hb2.block w.heap.size s0).trans k0
  have c0 : w2.cell? ⟨w.heap.size, 0, none⟩ = some (.bool false) := by rw [cell_of_row _ _ _ _ _ _ k1]; rfl
  have c1 : w2.cell? ⟨w.heap.size, 1, none⟩ = some (.slice none 0 0) := by rw [cell_of_row _ _ _ _ _ _ k1]; rfl
  have z0 : w2.frozen? ⟨w.heap.size, 0, none⟩ = false := frozen_of_row _ _ _ _ _ k1
  have z1 : w2.frozen? ⟨w.heap.size, 1, none⟩ = false := frozen_of_row _ _ _ _ _ k1
  have hbb := after_ hB0 hb2
  have hsz := hbb.size
  have hlt : w.heap.size < w2.heap.size := Nat.lt_of_lt_of_le s0 hb2.size
  clear k0 k1 ha0 hb2
  have hne : Hid (∀ ad, A2 = some ad → ad.block ≠ w.heap.size ∧ w.heap.size ≤ ad.block) := Lib.hid (fun ad h => by have := hfr ad h; omega)
  clear hfr
  go_wp2_with fail
  refine bodyPost_ret (v := .tuple #[.agg #[.bool false, .slice A2 (M.byt n).length c2], .int .i64 0]) ?_ rfl ?_
  · simp [results, Try.results38, go_sem, c0, c1]
  · refine ⟨_, rfl, ⟨A2, c2, rfl, fun ad h => (hne.out ad h).2, ?_⟩, (hbb.setCell (p := ⟨w.heap.size, 0, none⟩) (Nat.le_refl _) _).setCell (p := ⟨w.heap.size, 1, none⟩) (Nat.le_refl _) _⟩
    exact ((hS.setFar (p := ⟨w.heap.size, 0, none⟩) (fun ad h => (hne.out ad h).1) _).setFar (p := ⟨w.heap.size, 1, none⟩) (fun ad h => (hne.out ad h).1) _).more (by simp)
end Go.Proofs.Ytpbcbomlhcbfjaa
