/- The contract of the reference's Of at numbers from 0 on. -/
import Derived.Test.YtpbcbomlhcbfjaaMake
namespace Go.Proofs.Ytpbcbomlhcbfjaa
open Go Go.RowKit

theorem M.lb_zero : M.lb 0 = [] := rfl
theorem M.lb_cons {m : Nat} (h : m ≠ 0) : M.lb m = (m % 256) :: M.lb (m / 256) := by
  refine (M.lb_eq ?_ ?_ ?_).symm
  · intro d hd
    rcases List.mem_cons.1 hd with rfl | hd
    · omega
    · exact M.lb_lt _ d hd
  · intro hne
    by_cases h2 : M.lb (m / 256) = []
    · have hv := M.lb_val (m / 256)
      rw [h2] at hv
      have : M.val 256 [] = 0 := rfl
      simp only [h2, List.getLast_singleton]
      omega
    · rw [List.getLast_cons h2]
      exact M.lb_canon _ h2
  · show m % 256 + 256 * M.val 256 (M.lb (m / 256)) = m
    rw [M.lb_val]; omega

theorem own_cap {w : World} {base : Nat} {e : TypeId} {size n l c : Nat} {A : Option Addr} {xs : List Value} (h : w.ownsRow base e size (.slice A l c) n xs) : n ≤ c ∧ c ≤ 9223372036854775807 ∧ (∀ ad, A = some ad → base ≤ ad.block) := by
  rcases h.2 with ⟨h1, h0⟩ | ⟨g, cap, cur, h1, h2, _, h3, h4, _⟩
  · injection h1 with h5 h6 h7
    subst h5 h7 h0
    exact ⟨Nat.le_refl _, by omega, fun _ h => by cases h⟩
  · injection h1 with h5 h6 h7
    subst h5 h7
    unfold maxLen at h4
    exact ⟨h3, by omega, fun ad h => by injection h with h; subst h; exact h2⟩

set_option maxHeartbeats 2000000 in
theorem refOf_ok (n : Nat) (w : World) (hn : n ≤ 9223372036854775807) : Calls Try.prog 22 #[.int .i64 (n : Int)] w (RetI1 w n) := by
  have hB0 := (Below.refl w.heap.size w).alloc (Nat.le_refl _) (.cells #[.bool false, .slice none 0 0] 48)
  have s0 : Hid ((w.alloc (.cells #[.bool false, .slice none 0 0] 48)).heap.size = w.heap.size + 1) := Lib.hid (by simp)
  have k0 : Hid ((w.alloc (.cells #[.bool false, .slice none 0 0] 48)).heap[w.heap.size]? = some (.cells #[.bool false, .slice none 0 0] 48 (0, 0))) := Lib.hid (heap_alloc_new w _)
  have hl8 : (M.lb n).length ≤ 8 := M.lb_len.2 (by have : (256 : Nat) ^ 8 = 18446744073709551616 := by decide
                                                   omega)
  obtain ⟨i0, hi, hz0, hz1, hz2⟩ := info_parts u8Info
  have Hi := Lib.hid hi; have Hz0 := Lib.hid hz0; have Hz1 := Lib.hid hz1; have Hz2 := Lib.hid hz2
  clear hi hz0 hz1 hz2
  go_enter Try.func22, Try.ntmps22
  go_wp2_with fail
  generalize w.alloc (.cells #[.bool false, .slice none 0 0] 48) = W at *
  go_loopw [3, 4, 5] (fun out m _ wr => ∃ (k : Nat) (xs : List Nat), k ≤ n ∧ m = .int .i64 k ∧ Hid (xs ++ M.lb k = M.lb n) ∧ Below w.heap.size w wr ∧ Below W.heap.size W wr ∧ wr.ownsRow W.heap.size 5 1 out xs.length (flat 1 bc xs)) (fun _ m _ _ => (intOf m).toNat)
  case atStart => exact ⟨n, [], Nat.le_refl _, rfl, Lib.hid rfl, hB0, Below.refl _ _, own_nil _ _ _ _ _⟩
  case round =>
    obtain ⟨k, xs, hk, rfl, HE, hB, hBW, hown⟩ := hrel
    have hxl : xs.length ≤ 8 := by have := congrArg List.length HE.out; simp at this; omega
    by_cases h0 : k = 0
    · subst h0
      have e := HE.out
      rw [M.lb_zero, List.append_nil] at e
      subst e
      have k1 := Lib.hid ((hBW.block w.heap.size (by have := s0.out; omega)).trans k0.out)
      obtain ⟨A2, c2, rfl, hS2⟩ := own_slice (by decide) hown
      obtain ⟨hc1, hc2, hfr⟩ := own_cap hown
      have hneg : decide ((n : Int) < 0) = false := by simp
      go_wp2_with fail
      refine (make_ok A2 c2 n wr hS2 hc1 hc2 (by omega)).mono ?_
      rintro e w2 ⟨v, rfl, ⟨A3, c3, rfl, hf3, hS3⟩, hb3⟩
      have hbb := after_ hB hb3
      have hlt : w.heap.size < wr.heap.size := by have := hBW.size; have := s0.out; omega
      have k2 := Lib.hid ((hb3.block w.heap.size hlt).trans k1.out)
      have b0 : w2.cell? ⟨w.heap.size, 0, none⟩ = some (.bool false) := by rw [cell_of_row _ _ _ _ _ _ k2.out]; rfl
      have b1 : w2.cell? ⟨w.heap.size, 1, none⟩ = some (.slice none 0 0) := by rw [cell_of_row _ _ _ _ _ _ k2.out]; rfl
      have g0 : w2.frozen? ⟨w.heap.size, 0, none⟩ = false := frozen_of_row _ _ _ _ _ k2.out
      have g1 : w2.frozen? ⟨w.heap.size, 1, none⟩ = false := frozen_of_row _ _ _ _ _ k2.out
      have hne : Hid (∀ ad, A3 = some ad → ad.block ≠ w.heap.size ∧ w.heap.size ≤ ad.block) := Lib.hid (fun ad h => by have := hf3 ad h; omega)
      clear hf3 hS2 hc1 hc2 hfr hown
      go_wp2_with fail
      refine bodyPost_ret (v := .agg #[.bool false, .slice A3 (M.byt n).length c3]) ?_ rfl ?_
      · simp [results, Try.results22, go_sem, b0, b1]
      · refine ⟨_, rfl, ⟨A3, c3, rfl, fun ad h => (hne.out ad h).2, ?_⟩, (hbb.setCell (p := ⟨w.heap.size, 0, none⟩) (Nat.le_refl _) _).setCell (p := ⟨w.heap.size, 1, none⟩) (Nat.le_refl _) _⟩
        exact ((hS3.setFar (p := ⟨w.heap.size, 0, none⟩) (fun ad h => (hne.out ad h).1) _).setFar (p := ⟨w.heap.size, 1, none⟩) (fun ad h => (hne.out ad h).1) _).more (by simp)
    · have HE2 := HE.out
      rw [M.lb_cons h0] at HE2
      obtain ⟨r, hr⟩ : ∃ r, k % 256 = r := ⟨_, rfl⟩
      obtain ⟨q, hq⟩ : ∃ q, k / 256 = q := ⟨_, rfl⟩
      rw [hr, hq] at HE2
      have HE3 := Lib.hid HE2
      clear HE2
      have e1 : (k : Int) % 256 = (r : Int) := by omega
      have e2 : (k : Int) / 256 = (q : Int) := by omega
      have hr2 : r < 256 := by omega
      have hqk : q < k := by omega
      have er : (r : Int) % 256 = (r : Int) := by omega
      clear hr hq
      go_wp2_with (at_builtin; refine wpList_push (w0 := w) (cell := bc) (y := r) rfl _ _ _ rfl W.heap.size w.heap.size 5 i0 _ 1 Try.underlying55 Hi.out Hz0.out Hz1.out Hz2.out rfl (by decide) _ xs.length _ rfl hown _ _ rfl _ rfl (b_one _) (by unfold maxLen; omega) (by omega) hBW.size hB0.size hB ?_; intro v' w' hown' hb' hg')
      go_roundw
      case rel => exact ⟨q, xs ++ [r], by omega, rfl, Lib.hid (by rw [List.append_assoc]; exact HE3.out), hb', hBW.grown hg' hBW.size (fun b hb => (hown.lt b hb).1), by rw [List.length_append]; exact hown'⟩
      case measure => simp [intOf]; omega
end Go.Proofs.Ytpbcbomlhcbfjaa
