/- Plain arithmetic of the theorem of stage 28: volumes and prices. -/
import Derived.Test.YtpbcbomlhcbfjaaDoorVol
import Derived.Test.YtpbcbomlhcbfjaaDoorOffers
namespace Go.Proofs.YtpbcbomlhcbfjaaDoor

theorem M.mostTo_mono (xs : List Wt) (k : Nat) : M.mostTo xs k ≤ M.mostTo xs (k + 1) := by
  simp only [M.mostTo]
  split
  · omega
  · exact Int.le_refl _
theorem M.mostTo_le {xs : List Wt} {k n : Nat} (h : k ≤ n) : M.mostTo xs k ≤ M.mostTo xs n := by
  induction n with
  | zero => obtain rfl : k = 0 := by omega
            exact Int.le_refl _
  | succ n ih =>
    by_cases e : k = n + 1
    · subst e; exact Int.le_refl _
    · exact Int.le_trans (ih (by omega)) (M.mostTo_mono xs n)
theorem M.raw_le_most {xs : List Wt} {k : Nat} (h : k < xs.length) : M.raw xs[k] ≤ M.most xs := by
  have h1 := M.mostTo_succ h
  have h2 : M.mostTo xs (k + 1) ≤ M.most xs := M.mostTo_le (by omega)
  omega
theorem M.most_at (xs : List Wt) : ∀ k, k ≤ xs.length → 0 < M.mostTo xs k → ∃ i, ∃ h : i < xs.length, M.raw xs[i] = M.mostTo xs k
  | 0, _, h0 => absurd h0 (by simp [M.mostTo])
  | k + 1, hk, h0 => by
    have h1 := M.mostTo_succ (xs := xs) (k := k) (by omega)
    by_cases e : M.mostTo xs k < M.raw xs[k]
    · exact ⟨k, by omega, by omega⟩
    · obtain ⟨i, hi, he⟩ := M.most_at xs k (by omega) (by omega)
      exact ⟨i, hi, by omega⟩
theorem M.vol_bd {x : Wt} {mo : Int} (h : M.wOk x = true) (hm : M.raw x ≤ mo) : 1 ≤ M.vol mo x ∧ M.vol mo x ≤ 1000000 := by
  have hr := (M.raw_bd h).1
  unfold M.vol
  split
  · omega
  · have : M.raw x * 1000000 / mo ≤ 1000000 := Int.ediv_le_of_le_mul (by omega) (by omega)
    omega
theorem M.vol_mono {x y : Wt} {mo : Int} (h0 : 0 ≤ mo) (h : M.raw x ≤ M.raw y) : M.vol mo x ≤ M.vol mo y := by
  unfold M.vol
  split
  · exact Int.le_refl _
  · have : M.raw x * 1000000 / mo ≤ M.raw y * 1000000 / mo := Int.ediv_le_ediv (by omega) (by omega)
    omega
theorem M.vol_eq {x y : Wt} (mo : Int) (h : M.raw x = M.raw y) : M.vol mo x = M.vol mo y := by unfold M.vol; rw [h]
theorem M.vol_top {xs : List Wt} (h : 0 < xs.length) : ∃ i, ∃ hi : i < xs.length, M.vol (M.most xs) xs[i] = 1000000 := by
  by_cases hm : M.most xs = 0
  · exact ⟨0, h, by unfold M.vol; rw [if_pos hm]⟩
  · have hp : 0 < M.most xs := by
      have : 0 ≤ M.most xs := M.mostTo_nonneg _ _
      omega
    obtain ⟨i, hi, he⟩ := M.most_at xs xs.length (Nat.le_refl _) hp
    refine ⟨i, hi, ?_⟩
    unfold M.vol
    rw [if_neg hm, he]
    show max 1 (M.most xs * 1000000 / M.most xs) = 1000000
    rw [Int.mul_ediv_cancel_left _ hm]
    decide

theorem M.redV_ok {h o : Int} (h1 : 1 ≤ h) (h3 : h ≤ 3) (o0 : 0 ≤ o) (oh : o ≤ h) : M.redV h o = M.worth h - M.worth o := by
  unfold M.redV M.redB
  rw [if_pos (decide_eq_true ⟨h1, h3, o0, oh⟩)]
theorem M.redV_self {h : Int} (h1 : 1 ≤ h) (h3 : h ≤ 3) : M.redV h h = 0 := by
  rw [M.redV_ok h1 h3 (by omega) (Int.le_refl _)]; omega
theorem M.redV_step {h o : Int} (h1 : 1 ≤ h) (h3 : h ≤ 3) (o0 : 1 ≤ o) (oh : o ≤ h) : M.redV h o ≤ M.redV h (o - 1) := by
  rw [M.redV_ok h1 h3 (by omega) oh, M.redV_ok h1 h3 (by omega) (by omega)]
  have : o = 1 ∨ o = 2 ∨ o = 3 := by omega
  rcases this with rfl | rfl | rfl <;> simp [M.worth] <;> omega
theorem M.offV_ok {v b h o : Int} (hv : 1 ≤ v ∧ v ≤ 1000000 ∧ 0 ≤ b ∧ b ≤ 1000000000) : M.offV v b h o = v * b * M.redV h o / 1000000000 := (M.off_yes hv h o).1
theorem M.offV_bd {v b : Int} (h o : Int) (hv : 1 ≤ v ∧ v ≤ 1000000 ∧ 0 ≤ b ∧ b ≤ 1000000000) : 0 ≤ M.offV v b h o ∧ M.offV v b h o ≤ b := by
  rw [M.offV_ok hv]
  have h1 := M.vbr_bd hv h o
  have h2 := M.redV_bd h o
  refine ⟨Int.ediv_nonneg h1.1 (by decide), Int.ediv_le_of_le_mul (by decide) ?_⟩
  have e1 : v * b ≤ 1000000 * b := Int.mul_le_mul_of_nonneg_right hv.2.1 hv.2.2.1
  have e2 : v * b * M.redV h o ≤ 1000000 * b * M.redV h o := Int.mul_le_mul_of_nonneg_right e1 h2.1
  have e3 : 1000000 * b * M.redV h o ≤ 1000000 * b * 1000 := Int.mul_le_mul_of_nonneg_left h2.2 (by omega)
  omega
theorem M.offV_base {v b b' : Int} (h o : Int) (hv : 1 ≤ v ∧ v ≤ 1000000 ∧ 0 ≤ b ∧ b ≤ 1000000000) (hb : b ≤ b') (hb' : b' ≤ 1000000000) : M.offV v b h o ≤ M.offV v b' h o := by
  rw [M.offV_ok hv, M.offV_ok ⟨hv.1, hv.2.1, by omega, hb'⟩]
  have h2 := M.redV_bd h o
  refine Int.ediv_le_ediv (by decide) ?_
  exact Int.mul_le_mul_of_nonneg_right (Int.mul_le_mul_of_nonneg_left hb (by omega)) h2.1
theorem M.offV_vol {v b : Int} (h o : Int) (hv : 1 ≤ v ∧ v ≤ 1000000 ∧ 0 ≤ b ∧ b ≤ 1000000000) : M.offV v b h o ≤ M.offV 1000000 b h o := by
  rw [M.offV_ok hv, M.offV_ok ⟨by decide, by decide, hv.2.2.1, hv.2.2.2⟩]
  have h2 := M.redV_bd h o
  refine Int.ediv_le_ediv (by decide) ?_
  exact Int.mul_le_mul_of_nonneg_right (Int.mul_le_mul_of_nonneg_right hv.2.1 hv.2.2.1) h2.1
theorem M.offV_step {v b h o : Int} (hv : 1 ≤ v ∧ v ≤ 1000000 ∧ 0 ≤ b ∧ b ≤ 1000000000) (h1 : 1 ≤ h) (h3 : h ≤ 3) (o0 : 1 ≤ o) (oh : o ≤ h) : M.offV v b h o ≤ M.offV v b h (o - 1) := by
  rw [M.offV_ok hv, M.offV_ok hv]
  refine Int.ediv_le_ediv (by decide) ?_
  exact Int.mul_le_mul_of_nonneg_left (M.redV_step h1 h3 o0 oh) (M.vb_bd hv).1
theorem M.offV_self {v b h : Int} (hv : 1 ≤ v ∧ v ≤ 1000000 ∧ 0 ≤ b ∧ b ≤ 1000000000) (h1 : 1 ≤ h) (h3 : h ≤ 3) : M.offV v b h h = 0 := by
  rw [M.offV_ok hv, M.redV_self h1 h3, Int.mul_zero]; decide
theorem M.offs_ok {v b h : Int} (hv : 1 ≤ v ∧ v ≤ 1000000 ∧ 0 ≤ b ∧ b ≤ 1000000000) (h1 : 1 ≤ h) (h3 : h ≤ 3) : M.offs v b h = M.offsTo v b h (h.toNat + 1) ∧ M.offsE v b h = 0 := by
  have := (M.offsB_iff v b h).2 ⟨hv, h1, h3⟩
  simp [M.offs, M.offsE, this]
theorem M.offsTo_at {v b h : Int} {n k : Nat} (hk : k < (M.offsTo v b h n).length) : (M.offsTo v b h n)[k] = M.offV v b h (k : Int) := by simp [M.offsTo]
end Go.Proofs.YtpbcbomlhcbfjaaDoor
