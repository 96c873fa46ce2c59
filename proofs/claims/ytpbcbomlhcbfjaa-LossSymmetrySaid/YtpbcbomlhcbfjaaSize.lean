/- The contracts of bits.Len32 and of nat.size. -/
import Derived.Test.YtpbcbomlhcbfjaaNatOf
import Derived.Test.YtpbcbomlhcbfjaaLen32
namespace Go.Proofs.Ytpbcbomlhcbfjaa
open Go Go.RowKit

/-- The number of bits of a number. -/
def M.bl (n : Nat) : Nat := if n = 0 then 0 else Nat.log2 n + 1
theorem M.bl_le {n k : Nat} : M.bl n ≤ k ↔ n < 2 ^ k := by
  unfold M.bl
  split
  · rename_i h; subst h; simp [Nat.pow_pos]
  · rename_i h; rw [Nat.succ_le_iff, Nat.log2_lt h]
theorem M.bl_zero : M.bl 0 = 0 := rfl
theorem M.bl_eq {n k : Nat} (h : 2 ^ k ≤ n) (h2 : n < 2 ^ (k + 1)) : M.bl n = k + 1 := by
  have h1 := (M.bl_le (n := n) (k := k + 1)).2 h2
  have h3 : ¬ M.bl n ≤ k := fun h' => by have := M.bl_le.1 h'; omega
  omega
theorem M.bl_shift {n k : Nat} (h : 2 ^ k ≤ n) : M.bl n = k + M.bl (n / 2 ^ k) := by
  have hp : 0 < 2 ^ k := Nat.pow_pos (by decide)
  have hq : 0 < n / 2 ^ k := Nat.div_pos h hp
  obtain ⟨j, hj⟩ : ∃ j, M.bl (n / 2 ^ k) = j + 1 := by
    refine ⟨M.bl (n / 2 ^ k) - 1, ?_⟩
    have : M.bl (n / 2 ^ k) ≠ 0 := by unfold M.bl; rw [if_neg (by omega)]; omega
    omega
  have h1 : n / 2 ^ k < 2 ^ (j + 1) := M.bl_le.1 (by omega)
  have h2 : 2 ^ j ≤ n / 2 ^ k := by
    apply Nat.le_of_not_lt; intro h'
    have := M.bl_le.2 h'
    omega
  rw [hj]
  have e1 : 2 ^ (k + j) ≤ n := by
    rw [Nat.pow_add, Nat.mul_comm]
    exact (Nat.le_div_iff_mul_le hp).1 h2
  have e2 : n < 2 ^ (k + j + 1) := by
    rw [Nat.add_assoc, Nat.pow_add, Nat.mul_comm]
    exact (Nat.div_lt_iff_lt_mul hp).1 h1
  exact M.bl_eq e1 e2

theorem M.bl_half {n : Nat} (h : n ≠ 0) : M.bl n = 1 + M.bl (n / 2) := by
  by_cases h2 : 2 ≤ n
  · have := M.bl_shift (n := n) (k := 1) (by simpa using h2)
    simpa using this
  · obtain rfl : n = 1 := by omega
    decide +kernel
theorem M.bl_aux : ∀ (f x : Nat), x < 2 ^ f → Lib.bitLenAux f x = M.bl x
  | 0, x, h => by
    obtain rfl : x = 0 := by simpa using h
    rfl
  | f + 1, x, h => by
    simp only [Lib.bitLenAux]
    split
    · rename_i h0; subst h0; rfl
    · rename_i h0
      rw [M.bl_half h0, M.bl_aux f (x / 2) (by rw [Nat.pow_succ] at h; omega)]
theorem len32_any (x : Nat) (w : World) (hx : x < 4294967296) :
    Calls Try.prog 56 #[.int .u32 (x : Int)] w fun e w' => e = .returned (.int .i64 (M.bl x : Nat)) ∧ w = w' :=
  (bits_Len32 (x : Int) w (by omega) (by omega)).mono fun e w' ⟨h1, h2⟩ => ⟨by
    rw [h1, Int.toNat_natCast]
    have : Lib.bitLen x = M.bl x := M.bl_aux 64 x (by have : (4294967296 : Nat) < 2 ^ 64 := by decide
                                                      omega)
    rw [this], h2.symm⟩

/-- The number of bits of a list of words whose last is not zero. -/
theorem M.size_wds {l : List Nat} {d : Nat} (hl : ∀ x ∈ l, x < 4294967296) (hd : d < 4294967296) (h0 : d ≠ 0) : M.bl (M.val 4294967296 (l ++ [d])) = 32 * l.length + M.bl d := by
  have h1 := M.val_lt (b := 4294967296) (by decide) hl
  have e : (4294967296 : Nat) ^ l.length = 2 ^ (32 * l.length) := by rw [Nat.pow_mul]
  rw [M.val_append]
  simp only [M.val, Nat.mul_zero, Nat.add_zero]
  rw [e] at h1 ⊢
  have hp : 0 < 2 ^ (32 * l.length) := Nat.pow_pos (by decide)
  have hge : 2 ^ (32 * l.length) ≤ M.val 4294967296 l + 2 ^ (32 * l.length) * d := by
    have : 2 ^ (32 * l.length) * 1 ≤ 2 ^ (32 * l.length) * d := Nat.mul_le_mul_left _ (by omega)
    omega
  rw [M.bl_shift hge, Nat.add_mul_div_left _ _ hp, Nat.div_eq_of_lt h1, Nat.zero_add]

set_option maxHeartbeats 1000000 in
theorem size_any (A : Option Addr) (c B : Nat) (n : Nat) (w : World) (ha : Sl 1 wc w B A (M.wds n)) (hc : (M.wds n).length ≤ 1000) :
    Calls Try.prog 39 #[.slice A (M.wds n).length c] w fun e w' => e = .returned (.int .i64 (M.bl n : Nat)) ∧ w = w' := by
  have hlt := M.wds_lt n
  have hv := M.wds_val n
  have hcan := M.wds_canon n
  generalize M.wds n = l at *
  have HV := Lib.hid hv
  clear hv
  cases hl : l.length with
  | zero =>
    have hl0 : l = [] := List.eq_nil_of_length_eq_zero hl
    have HE : Hid (M.bl n = 0) := Lib.hid (by rw [← HV.out, hl0]; rfl)
    clear hl hl0 hlt hcan hc ha HV
    go_enter Try.func39, Try.ntmps39
    go_wp2_with fail
    go_ret
    exact ⟨ret_int (by rw [HE.out]; rfl), rfl⟩
  | succ k =>
    have hk : k < l.length := by omega
    obtain ⟨ad, rfl, _, d⟩ := ha.one_at hk
    have e : l = l.take k ++ [l[k]] := by
      rw [← List.take_succ_eq_append_getElem hk, List.take_of_length_le (by omega)]
    have h0 : l[k] ≠ 0 := by
      have := hcan (by intro h; rw [h] at hk; simp at hk)
      rw [List.getLast_eq_getElem] at this
      simpa [hl] using this
    have hx := hlt l[k] (List.getElem_mem _)
    have HE : Hid (M.bl n = 32 * k + M.bl l[k]) := Lib.hid (by
      rw [← HV.out]
      conv => lhs; rw [e]
      rw [M.size_wds (fun x hx => hlt x (List.mem_of_mem_take hx)) hx h0]
      simp; omega)
    simp only [wc] at d
    generalize l[k] = x at *
    have hbl : M.bl x ≤ 32 := M.bl_le.2 (by simpa using hx)
    clear e h0 hcan hlt HV
    have HL := Lib.hid hl
    clear hl ha
    go_enter Try.func39, Try.ntmps39
    go_wp2_with fail
    refine (len32_any x _ hx).mono ?_
    rintro e w1 ⟨rfl, rfl⟩
    go_wp2_with fail
    go_ret
    exact ⟨ret_int (by rw [HE.out]; omega), rfl⟩
end Go.Proofs.Ytpbcbomlhcbfjaa
