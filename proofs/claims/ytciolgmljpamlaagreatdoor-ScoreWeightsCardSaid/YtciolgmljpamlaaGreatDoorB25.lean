/- A bundle of texts: ScMath. -/
/- Plain arithmetic of layer 28: the integer square root. No program in sight. -/
section
namespace Go.Proofs.YtciolgmljpamlaaGreatDoor.M

/-- The integer square root of a natural number. -/
def isq : Nat → Nat
  | 0 => 0
  | n + 1 => if (isq n + 1) * (isq n + 1) ≤ n + 1 then isq n + 1 else isq n

theorem isq_spec (n : Nat) : isq n * isq n ≤ n ∧ n < (isq n + 1) * (isq n + 1) := by
  induction n with
  | zero => simp [isq]
  | succ n ih =>
    simp only [isq]
    split
    · rename_i h
      refine ⟨h, ?_⟩
      have e : (isq n + 1 + 1) * (isq n + 1 + 1) = (isq n + 1) * (isq n + 1) + 2 * isq n + 3 := by
        rw [Nat.add_mul, Nat.mul_add, Nat.mul_add, Nat.mul_add, Nat.add_mul, Nat.mul_add]; omega
      omega
    · omega

theorem sq_uniq {a b n : Nat} (h1 : a * a ≤ n) (h2 : n < (a + 1) * (a + 1)) (h3 : b * b ≤ n) (h4 : n < (b + 1) * (b + 1)) : a = b := by
  have k1 : a < b + 1 := by
    apply Nat.lt_of_not_le; intro h
    have := Nat.mul_le_mul h h; omega
  have k2 : b < a + 1 := by
    apply Nat.lt_of_not_le; intro h
    have := Nat.mul_le_mul h h; omega
  omega

/-- The integer square root of an integer (0 below 0). -/
def rt (n : Int) : Int := (isq n.toNat : Nat)

theorem rt_nonneg (n : Int) : 0 ≤ rt n := by unfold rt; omega

theorem rt_eq {n r : Int} (h0 : 0 ≤ r) (h1 : r * r ≤ n) (h2 : n < (r + 1) * (r + 1)) : rt n = r := by
  obtain ⟨a, rfl⟩ := Int.eq_ofNat_of_zero_le h0
  have hn : 0 ≤ n := Int.le_trans (by have := Int.natCast_nonneg (a * a); simpa using this) h1
  obtain ⟨m, rfl⟩ := Int.eq_ofNat_of_zero_le hn
  unfold rt
  have s := isq_spec m
  rw [Int.toNat_natCast]
  have e1 : a * a ≤ m := by exact_mod_cast h1
  have e2 : m < (a + 1) * (a + 1) := by exact_mod_cast h2
  rw [sq_uniq s.1 s.2 e1 e2]

theorem rt_sq {n : Int} (h : 0 ≤ n) : rt n * rt n ≤ n ∧ n < (rt n + 1) * (rt n + 1) := by
  obtain ⟨m, rfl⟩ := Int.eq_ofNat_of_zero_le h
  unfold rt
  rw [Int.toNat_natCast]
  have s := isq_spec m
  exact ⟨by exact_mod_cast s.1, by exact_mod_cast s.2⟩

theorem sq_mono {a b : Int} (h0 : 0 ≤ a) (h : a ≤ b) : a * a ≤ b * b := by
  have := Int.mul_le_mul h h h0 (by omega); exact this

theorem rt_mono {a b : Int} (h0 : 0 ≤ a) (h : a ≤ b) : rt a ≤ rt b := by
  have ha := rt_sq h0
  have hb := rt_sq (n := b) (by omega)
  have n1 := rt_nonneg a
  have n2 := rt_nonneg b
  apply Int.le_of_not_gt
  intro hc
  have := sq_mono (a := rt b + 1) (b := rt a) (by omega) (by omega)
  omega

theorem rt_lt {n k : Int} (h : 0 ≤ n) (k0 : 0 ≤ k) (hk : n < k * k) : rt n < k := by
  have ha := rt_sq h
  have n1 := rt_nonneg n
  apply Int.lt_of_not_ge
  intro hc
  have := sq_mono (a := k) (b := rt n) k0 hc
  omega

/-- The least square above every 64-bit integer. -/
theorem top_sq : (9223372036854775807 : Int) < (3037000499 + 1) * (3037000499 + 1) := by decide

theorem rt_bd {n : Int} (h : 0 ≤ n) (h' : n ≤ 9223372036854775807) : rt n ≤ 3037000499 := by
  have := rt_lt (n := n) (k := 3037000500) h (by decide) (by have := top_sq; omega)
  omega

theorem scq_bd {m : Int} (h : 0 ≤ m) (h' : m ≤ 3037000499) : 0 ≤ m * m ∧ m * m ≤ 9223372036854775807 := by
  have h1 := sq_mono (a := 0) (b := m) (by omega) h
  have h2 := sq_mono (a := m) (b := 3037000499) h h'
  omega

end Go.Proofs.YtciolgmljpamlaaGreatDoor.M
end
