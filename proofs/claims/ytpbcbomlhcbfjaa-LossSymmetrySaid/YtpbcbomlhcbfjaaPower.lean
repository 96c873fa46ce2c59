/- The contracts of number.Valid and number.Power at numbers from 0 on. -/
import Derived.Test.YtpbcbomlhcbfjaaOf
namespace Go.Proofs.Ytpbcbomlhcbfjaa
open Go Go.RowKit

theorem M.byt_head {n : Nat} (h : 0 < (M.byt n).length) : (M.byt n)[0] ≠ 0 := by
  have hc := M.dig_canon (b := 256) (by decide) n n (Nat.le_refl _)
  have hne : M.dig 256 n n ≠ [] := by
    intro he; simp [M.byt, he] at h
  have := hc hne
  rw [List.getLast_eq_getElem] at this
  have h2 : ∀ (h : 0 < (M.dig 256 n n).reverse.length), (M.dig 256 n n).reverse[0] ≠ 0 := fun h => by
    rw [List.getElem_reverse]; simpa using this
  exact h2 h
theorem M.byt_bd {n : Nat} (h : M.bl n ≤ 512) : (M.byt n).length ≤ 64 := by rw [M.byt_bl]; omega

set_option maxHeartbeats 2000000 in
theorem numValid_ok (n base : Nat) (v : Value) (w : World) (hv : IsInt w base n v) (hn : M.bl n ≤ 512) :
    Calls Try.prog 36 #[v] w fun e w' => e = .returned (.bool true) ∧ Below w.heap.size w w' := by
  obtain ⟨A, c, rfl, _, hS⟩ := hv
  have hl := M.byt_bd hn
  have hB0 := (Below.refl w.heap.size w).alloc (Nat.le_refl _) (.cells #[.bool false, .slice A (M.byt n).length c] 48)
  have hS0 := hS.alloc (Nat.le_refl _) (.cells #[.bool false, .slice A (M.byt n).length c] 48)
  cases hk : (M.byt n).length with
  | zero =>
    rw [hk] at hB0
    clear hS0 hS
    go_enter Try.func36, Try.ntmps36
    go_wp2_with fail
    go_ret
    exact ⟨rfl, hB0⟩
  | succ k =>
    have hd := M.byt_head (n := n) (by omega)
    obtain ⟨ad, rfl, _, d⟩ := hS0.one_at (k := 0) (by omega)
    simp only [bc, Addr.add, if_true] at d
    have hb : (((M.byt n)[0]'(by omega) : Nat) : Int) != 0 := by simp; exact hd
    generalize (M.byt n)[0]'(by omega) = x at *
    have hb' : ((x : Int) != 0) = true := hb
    rw [hk] at hB0 d hl
    clear hd hS hb hS0
    obtain ⟨m, hm⟩ : ∃ m, k + 1 = m := ⟨_, rfl⟩
    rw [hm] at hB0 d hl ⊢
    have hz : ((m : Int) == 0) = false := by simp; omega
    have hm0 : 0 < m := by omega
    have hq : decide ((m : Int) ≤ 64) = true := by simp; omega
    clear hm hk
    go_enter Try.func36, Try.ntmps36
    go_wp2_with fail
    go_ret
    exact ⟨rfl, hB0⟩

theorem M.wds_one : M.wds 1 = [1] := by decide +kernel
theorem M.bl_mono {a b : Nat} (h : a ≤ b) : M.bl a ≤ M.bl b := M.bl_le.2 (Nat.lt_of_le_of_lt h (M.bl_le.1 (Nat.le_refl _)))

set_option maxHeartbeats 4000000 in
theorem power_ok (n k base : Nat) (v : Value) (w : World) (hv : IsInt w base n v) (hn1 : 1 ≤ n) (hk1 : 1 ≤ k) (hk2 : k ≤ 1000) (hp : M.bl (n ^ k) ≤ 512) :
    Calls Try.prog 21 #[v, .int .i64 (k : Int)] w (RetI w (n ^ k)) := by
  have hnk : n ≤ n ^ k := by
    have : n ^ 1 ≤ n ^ k := Nat.pow_le_pow_right hn1 hk1
    simpa using this
  have hbn : M.bl n ≤ 512 := Nat.le_trans (M.bl_mono hnk) hp
  have hbyl := M.byt_bd hbn
  have hv0 := hv
  obtain ⟨A, c, rfl, _, hS⟩ := hv
  have hk0 : ((k : Int) == 0) = false := by simp; omega
  have hkn : decide ((k : Int) < 0) = false := by simp
  -- the box of the argument and the result's cell
  have hB0 := ((Below.refl w.heap.size w).alloc (Nat.le_refl _) (.cells #[.bool false, .slice A (M.byt n).length c] 48)).alloc (by simp) (.cells #[.bool false, .slice none 0 0] 48)
  have x0 : ((w.alloc (.cells #[.bool false, .slice A (M.byt n).length c] 48)).alloc (.cells #[.bool false, .slice none 0 0] 48)).heap[w.heap.size]? = some (.cells #[.bool false, .slice A (M.byt n).length c] 48 (0, 0)) := (Below.heap_alloc _ _ _ (by simp)).trans (heap_alloc_new w _)
  have x1 : ((w.alloc (.cells #[.bool false, .slice A (M.byt n).length c] 48)).alloc (.cells #[.bool false, .slice none 0 0] 48)).heap[w.heap.size + 1]? = some (.cells #[.bool false, .slice none 0 0] 48 (0, 0)) := by
    have := heap_alloc_new (w.alloc (.cells #[.bool false, .slice A (M.byt n).length c] 48)) (.cells #[.bool false, .slice none 0 0] 48)
    simpa using this
  have s0 : w.heap.size + 1 < ((w.alloc (.cells #[.bool false, .slice A (M.byt n).length c] 48)).alloc (.cells #[.bool false, .slice none 0 0] 48)).heap.size := by simp
  have hv1 := (hv0.kept ((Below.refl _ _).alloc (Nat.le_refl _) (.cells #[.bool false, .slice A (M.byt n).length c] 48))).kept ((Below.refl _ _).alloc (Nat.le_refl _) (.cells #[.bool false, .slice none 0 0] 48))
  have X0 := Lib.hid x0
  have X1 := Lib.hid x1
  clear x0 x1 hv0
  go_enter Try.func21, Try.ntmps21
  go_wp2_with fail
  generalize (w.alloc (.cells #[.bool false, .slice A (M.byt n).length c] 48)).alloc (.cells #[.bool false, .slice none 0 0] 48) = W at *
  refine (numValid_ok n base _ W hv1 hbn).mono ?_
  rintro e w1 ⟨rfl, hb1⟩
  have b1 := after_ hB0 hb1
  have y0 := (hb1.block w.heap.size (by omega)).trans X0.out
  have c0 : w1.cell? ⟨w.heap.size, 0, none⟩ = some (.bool false) := by rw [cell_of_row _ _ _ _ _ _ y0]; rfl
  have c1 : w1.cell? ⟨w.heap.size, 1, none⟩ = some (.slice A (M.byt n).length c) := by rw [cell_of_row _ _ _ _ _ _ y0]; rfl
  have Y1 := Lib.hid ((hb1.block (w.heap.size + 1) s0).trans X1.out)
  have s1 : w.heap.size + 1 < w1.heap.size := Nat.lt_of_lt_of_le s0 hb1.size
  have hS1 : Sl 1 bc w1 w1.heap.size A (M.byt n) := by
    obtain ⟨A', c', e, _, h⟩ := hv1.kept hb1
    have : A = A' := by simp at e; exact e.1
    subst this
    exact h
  clear y0 hB0 hv1 hb1 hS
  go_wp2_with fail
  refine (natOf_any A c (M.byt n) w1 hS1 (M.byt_lt n) hbyl).mono ?_
  rintro e w2 ⟨A2, c2, rfl, h1, h2, hS2, hb2⟩
  rw [M.byt_val] at h1 hS2 ⊢
  have b2 := after_ b1 hb2
  have d0 := (hb2.cell (p := ⟨w.heap.size, 0, none⟩) (by show w.heap.size < _; omega)).trans c0
  have Y2 := Lib.hid ((hb2.block (w.heap.size + 1) s1).trans Y1.out)
  have s2 : w.heap.size + 1 < w2.heap.size := Nat.lt_of_lt_of_le s1 hb2.size
  have hlw : (M.wds n).length ≤ 16 := M.wds_bl (by omega)
  clear c0 c1 hb2 b1 hS1
  go_wp2_with fail
  refine (size_any A2 c2 _ n _ hS2 (by omega)).mono ?_
  rintro e w3 ⟨rfl, rfl⟩
  by_cases hone : M.bl n ≤ 1
  · have hn : n = 1 := by
      have := M.bl_le.1 hone
      omega
    have HN := Lib.hid hn
    have hq : decide (((M.bl n : Nat) : Int) ≤ 1) = true := by simp; omega
    clear hn
    generalize M.bl n = b at *
    go_wp2_with fail
    refine (build_ok A2 c2 n w2 hS2 (by rw [HN.out]; decide +kernel)).mono ?_
    rintro e w4 ⟨v4, rfl, ⟨A4, c4, rfl, hfr4, hS4⟩, hb4⟩
    have b4 := after_ b2 hb4
    have Y3 := Lib.hid ((hb4.block (w.heap.size + 1) s2).trans Y2.out)
    have HNN : Hid (n ^ k = n) := Lib.hid (by rw [HN.out]; simp)
    have c0 : w4.cell? ⟨w.heap.size + 1, 0, none⟩ = some (.bool false) := by rw [cell_of_row _ _ _ _ _ _ Y3.out]; rfl
    have c1 : w4.cell? ⟨w.heap.size + 1, 1, none⟩ = some (.slice none 0 0) := by rw [cell_of_row _ _ _ _ _ _ Y3.out]; rfl
    have z0 : w4.frozen? ⟨w.heap.size + 1, 0, none⟩ = false := frozen_of_row _ _ _ _ _ Y3.out
    have z1 : w4.frozen? ⟨w.heap.size + 1, 1, none⟩ = false := frozen_of_row _ _ _ _ _ Y3.out
    have hne : Hid (∀ ad, A4 = some ad → ad.block ≠ w.heap.size + 1 ∧ w.heap.size ≤ ad.block) := Lib.hid (fun ad h => by have := hfr4 ad h; omega)
    clear hfr4
    go_wp2_with fail
    refine bodyPost_ret (v := .tuple #[.agg #[.bool false, .slice A4 (M.byt n).length c4], .int .i64 0]) ?_ rfl ?_
    · simp [results, Try.results21, go_sem, c0, c1]
    · rw [HNN.out]
      refine ⟨_, rfl, ⟨A4, c4, rfl, fun ad h => (hne.out ad h).2, ?_⟩, (b4.setCell (p := ⟨w.heap.size + 1, 0, none⟩) (by simp) _).setCell (p := ⟨w.heap.size + 1, 1, none⟩) (by simp) _⟩
      exact ((hS4.setFar (p := ⟨w.heap.size + 1, 0, none⟩) (fun ad h => (hne.out ad h).1) _).setFar (p := ⟨w.heap.size + 1, 1, none⟩) (fun ad h => (hne.out ad h).1) _).more (by simp)
  · have hq : decide (((M.bl n : Nat) : Int) ≤ 1) = false := by simp; omega
    have hn2 : 1 < n := by
      apply Nat.lt_of_not_le; intro h
      exact hone (M.bl_le.2 (by omega))
    clear hone
    generalize M.bl n = b at *
    go_wp2_with fail
    have hSp : Sl 1 wc (w2.alloc (.cells #[.int .u32 1] 73)) (w2.alloc (.cells #[.int .u32 1] 73)).heap.size (some ⟨w2.heap.size, 0, none⟩) (M.wds (n ^ 0)) := Sl.of_new (by rw [Nat.pow_zero, M.wds_one]; rfl)
    have b3 := b2.alloc b2.size (.cells #[.int .u32 1] 73)
    have Y3 := Lib.hid ((Below.heap_alloc w2 (.cells #[.int .u32 1] 73) _ s2).trans Y2.out)
    have hS3 := (hS2.alloc (Nat.le_refl _) (.cells #[.int .u32 1] 73)).more (B' := (w2.alloc (.cells #[.int .u32 1] 73)).heap.size) (by simp)
    have s3 : w.heap.size + 1 < (w2.alloc (.cells #[.int .u32 1] 73)).heap.size := by simp; omega
    have hl0 : (M.wds (n ^ 0)).length = 1 := by rw [Nat.pow_zero]; decide +kernel
    have HL0 := Lib.hid hl0
    clear hl0 hS2 b2
    generalize w2.alloc (.cells #[.int .u32 1] 73) = V at *
    generalize w2.heap.size = q at *
    go_loopw [8, 43] (fun x i wr => ∃ (j : Nat) (A' : Option Addr) (c' : Nat), j ≤ k ∧ i = .int .i64 j ∧ x = .slice A' (M.wds (n ^ j)).length c' ∧ Sl 1 wc wr wr.heap.size A' (M.wds (n ^ j)) ∧ Below V.heap.size V wr) (fun _ i _ => k - (intOf i).toNat)
    case atStart => exact ⟨0, some ⟨q, 0, none⟩, 1, Nat.zero_le _, rfl, by rw [HL0.out], hSp, Below.refl _ _⟩
    case round =>
      obtain ⟨j, A', c', hj, rfl, rfl, hSj, hbj⟩ := hrel
      have hpj : ∀ i, i ≤ k → M.bl (n ^ i) ≤ 512 := fun i hi => Nat.le_trans (M.bl_mono (Nat.pow_le_pow_right (by omega) hi)) hp
      have hlj : (M.wds (n ^ j)).length ≤ 16 := M.wds_bl (by have := hpj j hj; omega)
      by_cases hlt : j < k
      · have hp1 := hpj (j + 1) hlt
        have hl1 : (M.wds (n ^ (j + 1))).length ≤ 16 := M.wds_bl (by omega)
        clear hpj
        go_wp2_with fail
        refine (mulNat_any A' A2 c' c2 (n ^ j) n wr hSj ((hS3.below hbj).more hbj.size) (by omega) (by omega)).mono ?_
        rintro e w5 ⟨A5, c5, rfl, h5, h6, hS5, hb5⟩
        rw [← Nat.pow_succ] at h5 hS5 ⊢
        have hb6 := after_ hbj hb5
        go_wp2_with fail
        refine (size_any A5 c5 _ (n ^ (j + 1)) _ hS5 (by omega)).mono ?_
        rintro e w6 ⟨rfl, rfl⟩
        have hq5 : decide (512 < ((M.bl (n ^ (j + 1)) : Nat) : Int)) = false := by simp; omega
        go_wp2_with fail
        go_roundw
        case rel => exact ⟨j + 1, A5, c5, hlt, by go_num, rfl, hS5, hb6⟩
        case measure => simp [intOf]; omega
      · obtain rfl : j = k := by omega
        clear hpj
        go_wp2_with fail
        refine (build_ok A' c' (n ^ j) wr hSj hp).mono ?_
        rintro e w4 ⟨v4, rfl, ⟨A4, c4, rfl, hfr4, hS4⟩, hb4⟩
        have b4 := after_ b3 (after_ hbj hb4)
        have Y4 := Lib.hid (((after_ hbj hb4).block (w.heap.size + 1) s3).trans Y3.out)
        have hsr := hbj.size
        have c0 : w4.cell? ⟨w.heap.size + 1, 0, none⟩ = some (.bool false) := by rw [cell_of_row _ _ _ _ _ _ Y4.out]; rfl
        have c1 : w4.cell? ⟨w.heap.size + 1, 1, none⟩ = some (.slice none 0 0) := by rw [cell_of_row _ _ _ _ _ _ Y4.out]; rfl
        have z0 : w4.frozen? ⟨w.heap.size + 1, 0, none⟩ = false := frozen_of_row _ _ _ _ _ Y4.out
        have z1 : w4.frozen? ⟨w.heap.size + 1, 1, none⟩ = false := frozen_of_row _ _ _ _ _ Y4.out
        have hne : Hid (∀ ad, A4 = some ad → ad.block ≠ w.heap.size + 1 ∧ w.heap.size ≤ ad.block) := Lib.hid (fun ad h => by have := hfr4 ad h; omega)
        clear hfr4
        go_wp2_with fail
        refine bodyPost_ret (v := .tuple #[.agg #[.bool false, .slice A4 (M.byt (n ^ j)).length c4], .int .i64 0]) ?_ rfl ?_
        · simp [results, Try.results21, go_sem, c0, c1]
        · refine ⟨_, rfl, ⟨A4, c4, rfl, fun ad h => (hne.out ad h).2, ?_⟩, (b4.setCell (p := ⟨w.heap.size + 1, 0, none⟩) (by simp) _).setCell (p := ⟨w.heap.size + 1, 1, none⟩) (by simp) _⟩
          exact ((hS4.setFar (p := ⟨w.heap.size + 1, 0, none⟩) (fun ad h => (hne.out ad h).1) _).setFar (p := ⟨w.heap.size + 1, 1, none⟩) (fun ad h => (hne.out ad h).1) _).more (by simp)
end Go.Proofs.Ytpbcbomlhcbfjaa
