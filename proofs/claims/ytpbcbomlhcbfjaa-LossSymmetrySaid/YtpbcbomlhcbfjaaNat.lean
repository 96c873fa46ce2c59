/- Plain arithmetic of layer 1: natural numbers as lists of digits in a base, the lowest digit first, without zeros at the end. No program in sight. -/
namespace Go.Proofs.Ytpbcbomlhcbfjaa.M

/-- The value of a list of digits, the lowest first. -/
def val (b : Nat) : List Nat → Nat
  | [] => 0
  | d :: l => d + b * val b l

theorem val_append (b : Nat) (l m : List Nat) : val b (l ++ m) = val b l + b ^ l.length * val b m := by
  induction l with
  | nil => simp [val]
  | cons d l ih => simp [val, ih, Nat.pow_succ]; rw [Nat.mul_add, ← Nat.mul_assoc, Nat.mul_comm b (b ^ l.length), Nat.add_assoc]

theorem val_zeros (b n : Nat) : val b (List.replicate n 0) = 0 := by
  induction n with
  | zero => rfl
  | succ n ih => simp [List.replicate_succ, val, ih]

theorem val_lt {b : Nat} (hb : 0 < b) : ∀ {l : List Nat}, (∀ d ∈ l, d < b) → val b l < b ^ l.length
  | [], _ => by simp [val]
  | d :: l, h => by
    have h1 := val_lt hb (l := l) (fun x hx => h x (by simp [hx]))
    have h2 := h d (by simp)
    simp only [val, List.length_cons, Nat.pow_succ]
    have : val b l + 1 ≤ b ^ l.length := h1
    have h3 := Nat.mul_le_mul_left b this
    rw [Nat.mul_comm (b ^ l.length) b]
    rw [Nat.mul_add] at h3
    omega

/-- The digits of a number, the lowest first, without zeros at the end. -/
def dig (b : Nat) : Nat → Nat → List Nat
  | 0, _ => []
  | f + 1, n => if n = 0 then [] else (n % b) :: dig b f (n / b)

/-- No zero at the end. -/
def Canon (l : List Nat) : Prop := ∀ h : l ≠ [], l.getLast h ≠ 0

theorem canon_zero {b : Nat} (hb : 1 < b) : ∀ (l : List Nat), Canon l → val b l = 0 → l = []
  | [], _, _ => rfl
  | x :: l, c, hv => by
    exfalso
    simp only [val] at hv
    have h2 : b * val b l = 0 := by omega
    have h3 : val b l = 0 := by
      rcases Nat.mul_eq_zero.1 h2 with h | h
      · omega
      · exact h
    by_cases hl : l = []
    · subst hl
      exact c (by simp) (by simp; omega)
    · have c1 : Canon l := fun hne => by have := c (by simp); rwa [List.getLast_cons hne] at this
      exact hl (canon_zero hb l c1 h3)

theorem canon_uniq {b : Nat} (hb : 1 < b) : ∀ (l m : List Nat), (∀ d ∈ l, d < b) → (∀ d ∈ m, d < b) → Canon l → Canon m → val b l = val b m → l = m
  | [], m, _, _, _, cm, h => (canon_zero hb m cm h.symm).symm
  | d :: l, [], _, _, cl, _, h => canon_zero hb _ cl h
  | d :: l, e :: m, hl, hm, cl, cm, h => by
    simp only [val] at h
    have h1 := hl d (by simp)
    have h2 := hm e (by simp)
    have e1 : d = e := by
      have := congrArg (· % b) h
      simp only [Nat.add_mul_mod_self_left, Nat.mod_eq_of_lt h1, Nat.mod_eq_of_lt h2] at this
      exact this
    subst e1
    have e2 : val b l = val b m := Nat.eq_of_mul_eq_mul_left (by omega) (Nat.add_left_cancel h)
    have c1 : Canon l := fun hne => by have := cl (by simp); rwa [List.getLast_cons hne] at this
    have c2 : Canon m := fun hne => by have := cm (by simp); rwa [List.getLast_cons hne] at this
    rw [canon_uniq hb l m (fun x hx => hl x (by simp [hx])) (fun x hx => hm x (by simp [hx])) c1 c2 e2]

theorem dig_val {b : Nat} (hb : 1 < b) : ∀ (f n : Nat), n ≤ f → val b (dig b f n) = n
  | 0, n, h => by simp [dig, val]; omega
  | f + 1, n, h => by
    simp only [dig]
    split
    · simp [val]; omega
    · rename_i h0
      have : n / b < n := Nat.div_lt_self (by omega) hb
      simp only [val, dig_val hb f (n / b) (by omega)]
      rw [Nat.add_comm]; exact Nat.div_add_mod n b

theorem dig_lt {b : Nat} (hb : 1 < b) : ∀ (f n : Nat), ∀ d ∈ dig b f n, d < b
  | 0, _, d, h => by simp [dig] at h
  | f + 1, n, d, h => by
    simp only [dig] at h
    split at h
    · simp at h
    · rcases List.mem_cons.1 h with rfl | h
      · exact Nat.mod_lt _ (by omega)
      · exact dig_lt hb f _ d h

theorem dig_canon {b : Nat} (hb : 1 < b) : ∀ (f n : Nat), n ≤ f → Canon (dig b f n)
  | 0, n, h => by intro h; simp [dig] at h
  | f + 1, n, h => by
    intro hne
    simp only [dig] at hne ⊢
    split at hne
    · exact absurd rfl hne
    · rename_i h0
      simp only [h0, if_false]
      have hlt : n / b < n := Nat.div_lt_self (by omega) hb
      by_cases hq : dig b f (n / b) = []
      · simp only [hq, List.getLast_singleton]
        have hv := dig_val hb f (n / b) (by omega)
        rw [hq] at hv
        simp only [val] at hv
        have := Nat.div_add_mod n b
        rw [← hv] at this
        omega
      · rw [List.getLast_cons hq]
        exact dig_canon hb f (n / b) (by omega) hq

/-- The words (base 2^32) of a number, the lowest first. -/
def wds (n : Nat) : List Nat := dig 4294967296 n n
/-- The digits (base 256) of a number, the highest first: those of an Int. -/
def byt (n : Nat) : List Nat := (dig 256 n n).reverse

theorem wds_val (n : Nat) : val 4294967296 (wds n) = n := dig_val (by decide) n n (Nat.le_refl _)
theorem wds_lt (n : Nat) : ∀ d ∈ wds n, d < 4294967296 := dig_lt (by decide) n n
theorem wds_canon (n : Nat) : Canon (wds n) := dig_canon (by decide) n n (Nat.le_refl _)
theorem wds_eq {l : List Nat} {n : Nat} (h : ∀ d ∈ l, d < 4294967296) (c : Canon l) (hv : val 4294967296 l = n) : l = wds n :=
  canon_uniq (by decide) _ _ h (wds_lt n) c (wds_canon n) (hv.trans (wds_val n).symm)
theorem byt_rev (n : Nat) : (byt n).reverse = dig 256 n n := by simp [byt]
theorem byt_val (n : Nat) : val 256 (byt n).reverse = n := by rw [byt_rev]; exact dig_val (by decide) n n (Nat.le_refl _)
theorem byt_lt (n : Nat) : ∀ d ∈ byt n, d < 256 := fun d hd => dig_lt (by decide) n n d (by simpa [byt] using hd)

/-- Zeros at the end are dropped. -/
def trm : List Nat → List Nat
  | [] => []
  | d :: l => match trm l with
    | [] => if d = 0 then [] else [d]
    | m => d :: m
theorem trm_val (b : Nat) (l : List Nat) : val b (trm l) = val b l := by
  induction l with
  | nil => rfl
  | cons d l ih =>
    simp only [trm]
    split
    · rename_i h
      rw [h] at ih
      simp only [val] at ih
      split
      · simp only [val, ← ih]; omega
      · simp only [val, ← ih]
    · simp only [val, ih]
theorem trm_canon (l : List Nat) : Canon (trm l) := by
  induction l with
  | nil => intro h; exact absurd rfl h
  | cons d l ih =>
    cases ht : trm l with
    | nil =>
      by_cases h0 : d = 0
      · have e : trm (d :: l) = [] := by simp [trm, ht, h0]
        rw [e]; intro h; exact absurd rfl h
      · have e : trm (d :: l) = [d] := by simp [trm, ht, h0]
        rw [e]; intro h; simpa using h0
    | cons x m =>
      have e : trm (d :: l) = d :: x :: m := by simp [trm, ht]
      rw [e]
      intro h
      rw [List.getLast_cons (by simp)]
      rw [ht] at ih
      exact ih (by simp)
theorem trm_snoc_zero (l : List Nat) : trm (l ++ [0]) = trm l := by
  induction l with
  | nil => simp [trm]
  | cons d l ih => simp only [List.cons_append, trm, ih]
theorem trm_snoc_pos (l : List Nat) {d : Nat} (h : d ≠ 0) : trm (l ++ [d]) = l ++ [d] := by
  induction l with
  | nil => simp [trm, h]
  | cons x l ih =>
    simp only [List.cons_append, trm, ih]
    split
    · rename_i he; simp at he
    · rfl
theorem trm_mem {l : List Nat} : ∀ d ∈ trm l, d ∈ l := by
  induction l with
  | nil => intro d h; exact h
  | cons x l ih =>
    intro d hd
    simp only [trm] at hd
    split at hd
    · split at hd
      · simp at hd
      · simp at hd; simp [hd]
    · rcases List.mem_cons.1 hd with rfl | h
      · simp
      · simp [ih d h]
theorem trm_wds {l : List Nat} (h : ∀ d ∈ l, d < 4294967296) : trm l = wds (val 4294967296 l) :=
  wds_eq (fun d hd => h d (trm_mem d hd)) (trm_canon l) (trm_val _ l)

theorem val_set (b : Nat) : ∀ (l : List Nat) (k : Nat) (h : k < l.length) (d : Nat), val b (l.set k (l[k] + d)) = val b l + d * b ^ k
  | x :: l, 0, _, d => by simp [val]; omega
  | x :: l, k + 1, h, d => by
    simp only [List.set_cons_succ, val, List.getElem_cons_succ]
    rw [val_set b l k (by simpa using h) d, Nat.mul_add, Nat.pow_succ, Nat.add_assoc]
    congr 2
    rw [Nat.mul_left_comm, Nat.mul_comm b]

/-- What natOf's row holds after i digits. -/
structure NatInv (r X : List Nat) (n i : Nat) : Prop where
  len : X.length = n
  lt : ∀ d ∈ X, d < 4294967296
  val_ : val 4294967296 X = val 256 (r.take i)
  at_ : ∀ h : i / 4 < X.length, X[i / 4] < 256 ^ (i % 4)
  zero : ∀ q (h : q < X.length), i / 4 < q → X[q] = 0

theorem NatInv.start (r : List Nat) (n : Nat) : NatInv r (List.replicate n 0) n 0 :=
  ⟨by simp, fun d hd => by simp at hd; omega, by simp [val, val_zeros], fun h => by simp, fun q h _ => by simp⟩

theorem pow_split (k : Nat) : 4294967296 ^ (k / 4) * 256 ^ (k % 4) = 256 ^ k := by
  have e : (4294967296 : Nat) = 256 ^ 4 := by decide
  rw [e, ← Nat.pow_mul, ← Nat.pow_add, Nat.div_add_mod]

theorem NatInv.step {r X : List Nat} {n k y x : Nat} (h : NatInv r X n k) (hk : k < r.length) (hy : r[k] = y) (hy8 : y < 256) (hq : k / 4 < X.length) (hx : X[k / 4] = x) :
    NatInv r (X.set (k / 4) (x + y * 256 ^ (k % 4))) n (k + 1) := by
  have hxb : x < 256 ^ (k % 4) := by rw [← hx]; exact h.at_ hq
  have hm : k % 4 < 4 := Nat.mod_lt _ (by decide)
  have hp : 256 ^ (k % 4 + 1) ≤ 4294967296 := by
    have : 256 ^ (k % 4 + 1) ≤ 256 ^ 4 := Nat.pow_le_pow_right (by decide) (by omega)
    simpa using this
  have hb : x + y * 256 ^ (k % 4) < 256 ^ (k % 4 + 1) := by
    have : y * 256 ^ (k % 4) ≤ 255 * 256 ^ (k % 4) := Nat.mul_le_mul_right _ (by omega)
    rw [Nat.pow_succ]; omega
  refine ⟨by simp [h.len], fun d hd => ?_, ?_, fun h2 => ?_, fun q h2 hlt => ?_⟩
  · rcases List.mem_or_eq_of_mem_set hd with hd | rfl
    · exact h.lt d hd
    · omega
  · subst hx
    rw [val_set, h.val_, List.take_succ_eq_append_getElem hk, val_append, hy, List.length_take, Nat.min_eq_left (by omega)]
    simp only [val, Nat.mul_zero, Nat.add_zero]
    rw [Nat.mul_assoc, Nat.mul_comm (256 ^ (k % 4)), pow_split, Nat.mul_comm]
  · rw [List.getElem_set]
    split
    · rename_i e
      have : (k + 1) % 4 = k % 4 + 1 := by omega
      rw [this]; exact hb
    · rename_i e
      have h3 : (k + 1) / 4 < X.length := by simpa using h2
      have := h.zero _ h3 (by omega)
      rw [this]
      exact Nat.pow_pos (by decide)
  · rw [List.getElem_set_ne (by omega)]
    exact h.zero q (by simpa using h2) (by omega)
theorem NatInv.fin {r X : List Nat} {n : Nat} (h : NatInv r X n r.length) : trm X = wds (val 256 r) := by
  rw [trm_wds h.lt, h.val_, List.take_length]

theorem dig_len {b : Nat} (hb : 1 < b) : ∀ (f n k : Nat), n ≤ f → ((dig b f n).length ≤ k ↔ n < b ^ k)
  | 0, n, k, h => by
    obtain rfl : n = 0 := by omega
    simp [dig, Nat.pow_pos (show 0 < b by omega)]
  | f + 1, n, k, h => by
    simp only [dig]
    split
    · rename_i h0; subst h0; simp [Nat.pow_pos (show 0 < b by omega)]
    · rename_i h0
      have hlt : n / b < n := Nat.div_lt_self (by omega) hb
      cases k with
      | zero => simp; omega
      | succ k =>
        simp only [List.length_cons, Nat.add_le_add_iff_right]
        rw [dig_len hb f (n / b) k (by omega), Nat.div_lt_iff_lt_mul (by omega), Nat.pow_succ]
theorem dig_at {b : Nat} (hb : 1 < b) : ∀ (f n i : Nat) (h : i < (dig b f n).length), (dig b f n)[i] = n / b ^ i % b
  | 0, n, i, h => by simp [dig] at h
  | f + 1, n, i, h => by
    by_cases h0 : n = 0
    · exfalso; rw [h0] at h; simp [dig] at h
    · have e : dig b (f + 1) n = (n % b) :: dig b f (n / b) := by simp [dig, h0]
      simp only [e] at h ⊢
      cases i with
      | zero => simp
      | succ i =>
        rw [List.getElem_cons_succ, dig_at hb f (n / b) i (by simpa using h), Nat.div_div_eq_div_mul, Nat.pow_succ, Nat.mul_comm b]
theorem wds_len {n k : Nat} : (wds n).length ≤ k ↔ n < 4294967296 ^ k := dig_len (by decide) n n k (Nat.le_refl _)
theorem byt_len {n k : Nat} : (byt n).length ≤ k ↔ n < 256 ^ k := by
  unfold byt; rw [List.length_reverse]; exact dig_len (by decide) n n k (Nat.le_refl _)
theorem wds_at {n i : Nat} (h : i < (wds n).length) : (wds n)[i] = n / 4294967296 ^ i % 4294967296 := dig_at (by decide) n n i h
theorem byt_at {n i : Nat} (h : i < (byt n).length) : (byt n)[(byt n).length - 1 - i] = n / 256 ^ i % 256 := by
  have h' : i < (dig 256 n n).length := by simpa [byt] using h
  rw [← dig_at (by decide) n n i h']
  unfold byt
  simp only [List.length_reverse, List.getElem_reverse]
  congr 1
  omega
/-- Byte i of a number out of its word i / 4. -/
theorem byte_of {n i : Nat} (h : i < (byt n).length) : ∃ hq : i / 4 < (wds n).length, (wds n)[i / 4] / 256 ^ (i % 4) % 256 = n / 256 ^ i % 256 := by
  have hq : i / 4 < (wds n).length := by
    apply Nat.lt_of_not_le; intro hle
    have h1 := wds_len.1 hle
    have h2 : (4294967296 : Nat) ^ (i / 4) ≤ 256 ^ i := by
      rw [← pow_split i]
      exact Nat.le_mul_of_pos_right _ (Nat.pow_pos (by decide))
    have := byt_len.2 (Nat.lt_of_lt_of_le h1 h2)
    omega
  refine ⟨hq, ?_⟩
  rw [wds_at, ← pow_split i, ← Nat.div_div_eq_div_mul]
  generalize n / 4294967296 ^ (i / 4) = a
  have hm : i % 4 < 4 := Nat.mod_lt _ (by decide)
  generalize i % 4 = r at *
  have e : (4294967296 : Nat) = 256 ^ r * (256 * 256 ^ (3 - r)) := by
    have : (256 : Nat) ^ r * (256 * 256 ^ (3 - r)) = 256 ^ (r + 1 + (3 - r)) := by rw [Nat.pow_add, Nat.pow_succ, Nat.mul_assoc]
    rw [this, show r + 1 + (3 - r) = 4 by omega]
  rw [e, Nat.mod_mul_right_div_self]
  exact Nat.mod_mod_of_dvd _ (Nat.dvd_mul_right _ _)

theorem val_put (b : Nat) : ∀ (l : List Nat) (k : Nat) (h : k < l.length) (v : Nat), val b (l.set k v) + l[k] * b ^ k = val b l + v * b ^ k
  | x :: l, 0, _, v => by simp [val]; omega
  | x :: l, k + 1, h, v => by
    have ih := val_put b l k (by simpa using h) v
    simp only [List.set_cons_succ, val, List.getElem_cons_succ, Nat.pow_succ]
    have e1 : l[k]'(by simpa using h) * (b ^ k * b) = b * (l[k]'(by simpa using h) * b ^ k) := by rw [Nat.mul_comm (b ^ k) b, Nat.mul_left_comm]
    have e2 : v * (b ^ k * b) = b * (v * b ^ k) := by rw [Nat.mul_comm (b ^ k) b, Nat.mul_left_comm]
    rw [e1, e2, Nat.add_assoc, Nat.add_assoc, ← Nat.mul_add, ← Nat.mul_add, ih]
theorem val_take {b : Nat} {l : List Nat} {k : Nat} (h : k < l.length) : val b (l.take (k + 1)) = val b (l.take k) + l[k] * b ^ k := by
  rw [List.take_succ_eq_append_getElem h, val_append, List.length_take, Nat.min_eq_left (by omega)]
  simp [val, Nat.mul_comm]

/-- mulNat's row before the i-th word of the first factor. -/
structure MulOut (xs ys out : List Nat) (i : Nat) : Prop where
  len : out.length = xs.length + ys.length
  lt : ∀ d ∈ out, d < 4294967296
  val_ : val 4294967296 out = val 4294967296 (xs.take i) * val 4294967296 ys
  zero : ∀ q (h : q < out.length), i + ys.length ≤ q → out[q] = 0
/-- .. and inside, before the j-th word of the second, with a carry. -/
structure MulIn (xs ys out : List Nat) (i j c a : Nat) : Prop where
  len : out.length = xs.length + ys.length
  lt : ∀ d ∈ out, d < 4294967296
  car : c < 4294967296
  val_ : val 4294967296 out + c * 4294967296 ^ (i + j) = val 4294967296 (xs.take i) * val 4294967296 ys + a * val 4294967296 (ys.take j) * 4294967296 ^ i
  zero : ∀ q (h : q < out.length), i + ys.length ≤ q → out[q] = 0

theorem MulOut.start (xs ys : List Nat) : MulOut xs ys (List.replicate (xs.length + ys.length) 0) 0 :=
  ⟨by simp, fun d hd => by simp at hd; omega, by simp [val, val_zeros], fun q h _ => by simp⟩
theorem MulOut.in_ {xs ys out : List Nat} {i : Nat} (h : MulOut xs ys out i) (a : Nat) : MulIn xs ys out i 0 0 a :=
  ⟨h.len, h.lt, by decide, by simp [val, h.val_], h.zero⟩
theorem carry_bd {a y o c : Nat} (ha : a < 4294967296) (hy : y < 4294967296) (ho : o < 4294967296) (hc : c < 4294967296) : a * y + o + c < 18446744073709551616 := by
  have : a * y ≤ 4294967295 * 4294967295 := Nat.mul_le_mul (by omega) (by omega)
  omega
theorem MulIn.step {xs ys out : List Nat} {i j c a y o : Nat} (h : MulIn xs ys out i j c a) (hj : j < ys.length) (ha : a < 4294967296) (hy : ys[j] = y) (hy32 : y < 4294967296) (hq : i + j < out.length) (ho : out[i + j] = o) :
    MulIn xs ys (out.set (i + j) ((c + (a * y + o)) % 4294967296)) i (j + 1) ((c + (a * y + o)) / 4294967296) a := by
  have ho32 : o < 4294967296 := by rw [← ho]; exact h.lt _ (List.getElem_mem _)
  have hb := carry_bd ha hy32 ho32 h.car
  refine ⟨by simp [h.len], fun d hd => ?_, ?_, ?_, fun q h2 hlt => ?_⟩
  · rcases List.mem_or_eq_of_mem_set hd with hd | rfl
    · exact h.lt d hd
    · exact Nat.mod_lt _ (by decide)
  · omega
  · have hv := h.val_
    have hp := val_put 4294967296 out (i + j) hq ((c + (a * y + o)) % 4294967296)
    rw [ho] at hp
    rw [val_take hj, hy, Nat.mul_add, Nat.add_mul]
    have e1 : a * (y * 4294967296 ^ j) * 4294967296 ^ i = a * y * 4294967296 ^ (i + j) := by
      rw [Nat.pow_add, Nat.mul_comm (4294967296 ^ i), ← Nat.mul_assoc, ← Nat.mul_assoc]
    have e2 : (c + (a * y + o)) / 4294967296 * 4294967296 ^ (i + (j + 1)) = (c + (a * y + o)) / 4294967296 * 4294967296 * 4294967296 ^ (i + j) := by
      have : (4294967296 : Nat) ^ (i + (j + 1)) = 4294967296 * 4294967296 ^ (i + j) := by
        rw [show i + (j + 1) = (i + j) + 1 from rfl, Nat.pow_succ, Nat.mul_comm]
      rw [this, Nat.mul_assoc]
    rw [e1, e2]
    generalize 4294967296 ^ (i + j) = T at *
    generalize val 4294967296 (out.set (i + j) ((c + (a * y + o)) % 4294967296)) = V' at *
    generalize val 4294967296 out = V at *
    generalize val 4294967296 (List.take i xs) * val 4294967296 ys = P0 at *
    generalize a * val 4294967296 (List.take j ys) * 4294967296 ^ i = P1 at *
    have hdm := Nat.div_add_mod (c + (a * y + o)) 4294967296
    generalize (c + (a * y + o)) / 4294967296 = Q at *
    generalize (c + (a * y + o)) % 4294967296 = R at *
    have e3 : (4294967296 * Q + R) * T = (c + (a * y + o)) * T := by rw [hdm]
    rw [Nat.add_mul, Nat.add_mul, Nat.add_mul, Nat.mul_comm 4294967296 Q] at e3
    omega
  · rw [List.getElem_set_ne (by omega)]
    exact h.zero q (by simpa using h2) hlt
theorem MulIn.out {xs ys out : List Nat} {i c a : Nat} (h : MulIn xs ys out i ys.length c a) (hi : i < xs.length) (ha : xs[i] = a) : ∃ hq : i + ys.length < out.length, MulOut xs ys (out.set (i + ys.length) c) (i + 1) := by
  have hq : i + ys.length < out.length := by have := h.len; omega
  refine ⟨hq, by simp [h.len], fun d hd => ?_, ?_, fun q h2 hlt => ?_⟩
  · rcases List.mem_or_eq_of_mem_set hd with hd | rfl
    · exact h.lt d hd
    · exact h.car
  · have hv := h.val_
    have hp := val_put 4294967296 out (i + ys.length) hq c
    rw [h.zero _ hq (Nat.le_refl _), Nat.zero_mul, Nat.add_zero] at hp
    rw [hp, hv, List.take_length, val_take hi, ha, Nat.add_mul]
    congr 1
    rw [Nat.mul_assoc, Nat.mul_assoc, Nat.mul_comm (val 4294967296 ys)]
  · rw [List.getElem_set_ne (by omega)]
    exact h.zero q (by simpa using h2) (by omega)
theorem MulOut.fin {xs ys out : List Nat} (h : MulOut xs ys out xs.length) : trm out = wds (val 4294967296 xs * val 4294967296 ys) := by
  rw [trm_wds h.lt, h.val_, List.take_length]

/-- divSmall's row when the words from i on are divided. -/
structure DivInv (x q : List Nat) (d i r : Nat) : Prop where
  len : q.length = x.length
  lt : ∀ e ∈ q, e < 4294967296
  val_ : val 4294967296 (q.drop i) * d + r = val 4294967296 (x.drop i)
  rem : r < d
theorem DivInv.start (x : List Nat) {d : Nat} (hd : 0 < d) : DivInv x (List.replicate x.length 0) d x.length 0 :=
  ⟨by simp, fun e he => by simp at he; omega, by simp [val], hd⟩
theorem DivInv.step {x q : List Nat} {d j r y : Nat} (h : DivInv x q d (j + 1) r) (hj : j < x.length) (hy : x[j] = y) (hy32 : y < 4294967296) (hd : d < 4294967296) :
    (r * 4294967296 + y) / d < 4294967296 ∧ DivInv x (q.set j ((r * 4294967296 + y) / d)) d j ((r * 4294967296 + y) % d) := by
  have hr := h.rem
  have hjq : j < q.length := by rw [h.len]; exact hj
  have hlt : (r * 4294967296 + y) / d < 4294967296 := by
    rw [Nat.div_lt_iff_lt_mul (by omega)]
    have : (r + 1) * 4294967296 ≤ d * 4294967296 := Nat.mul_le_mul_right _ hr
    rw [Nat.mul_comm 4294967296 d]
    omega
  refine ⟨hlt, by simp [h.len], fun e he => ?_, ?_, Nat.mod_lt _ (by omega)⟩
  · rcases List.mem_or_eq_of_mem_set he with he | rfl
    · exact h.lt e he
    · exact hlt
  · have e1 : (q.set j ((r * 4294967296 + y) / d)).drop j = (r * 4294967296 + y) / d :: q.drop (j + 1) := by
      rw [List.drop_eq_getElem_cons (by simpa using hjq), List.getElem_set_self, List.drop_set_of_lt (by omega)]
    have e2 : x.drop j = y :: x.drop (j + 1) := by rw [List.drop_eq_getElem_cons hj, hy]
    rw [e1, e2]
    simp only [val]
    have hv := h.val_
    have hdm := Nat.div_add_mod (r * 4294967296 + y) d
    rw [← hv, Nat.add_mul, Nat.mul_assoc 4294967296]
    generalize val 4294967296 (q.drop (j + 1)) * d = T at *
    rw [Nat.mul_comm d] at hdm
    generalize (r * 4294967296 + y) / d * d = U at *
    omega
theorem DivInv.fin {x q : List Nat} {d n r : Nat} (h : DivInv x q d 0 r) (hn : val 4294967296 x = n) : trm q = wds (n / d) ∧ r = n % d := by
  have hv := h.val_
  rw [List.drop_zero, List.drop_zero, hn] at hv
  have hr := h.rem
  have e1 : n / d = val 4294967296 q := by
    rw [← hv, Nat.add_comm, Nat.add_mul_div_right _ _ (by omega), Nat.div_eq_of_lt hr, Nat.zero_add]
  have e2 : n % d = r := by
    rw [← hv, Nat.add_comm, Nat.add_mul_mod_self_right, Nat.mod_eq_of_lt hr]
  exact ⟨by rw [e1, trm_wds h.lt], e2.symm⟩

/-- The number of decimal digits. -/
def nd (n : Nat) : Nat := (dig 10 n n).length
theorem nd_le {n k : Nat} : nd n ≤ k ↔ n < 10 ^ k := dig_len (by decide) n n k (Nat.le_refl _)
theorem dec_eq {l : List Nat} {n : Nat} (h : ∀ d ∈ l, d < 10) (hv : val 10 l = n) : trm l = dig 10 n n :=
  canon_uniq (by decide) _ _ (fun d hd => h d (trm_mem d hd)) (dig_lt (by decide) n n) (trm_canon l) (dig_canon (by decide) n n (Nat.le_refl _)) (by rw [trm_val, hv, dig_val (by decide) n n (Nat.le_refl _)])
/-- decimal's digits so far, and what is left. -/
structure DecInv (n X : Nat) (ds : List Nat) : Prop where
  lt : ∀ d ∈ ds, d < 10
  val_ : val 10 ds + 10 ^ ds.length * X = n
/-- .. inside a group of nine. -/
structure DecIn (n q : Nat) (ds : List Nat) (j r : Nat) : Prop where
  lt : ∀ d ∈ ds, d < 10
  rem : r < 10 ^ (9 - j)
  val_ : val 10 ds + 10 ^ ds.length * (r + 10 ^ (9 - j) * q) = n
theorem DecInv.in_ {n X : Nat} {ds : List Nat} (h : DecInv n X ds) : DecIn n (X / 1000000000) ds 0 (X % 1000000000) :=
  ⟨h.lt, Nat.mod_lt _ (by decide), by
    have := h.val_
    rw [show (10 : Nat) ^ (9 - 0) = 1000000000 by decide, Nat.mod_add_div]
    exact this⟩
theorem DecIn.step {n q : Nat} {ds : List Nat} {j r : Nat} (h : DecIn n q ds j r) (hj : j < 9) : DecIn n q (ds ++ [r % 10]) (j + 1) (r / 10) := by
  have e : 10 ^ (9 - j) = 10 * 10 ^ (9 - (j + 1)) := by
    rw [show 9 - j = (9 - (j + 1)) + 1 by omega, Nat.pow_succ, Nat.mul_comm]
  refine ⟨fun d hd => ?_, ?_, ?_⟩
  · rcases List.mem_append.1 hd with hd | hd
    · exact h.lt d hd
    · simp at hd; omega
  · have := h.rem
    rw [e] at this
    omega
  · have hv := h.val_
    rw [val_append, ← hv, e, List.length_append, Nat.pow_add]
    simp only [val, List.length_singleton, Nat.pow_one, Nat.mul_zero, Nat.add_zero]
    rw [Nat.add_assoc, Nat.mul_assoc (10 ^ ds.length) 10, ← Nat.mul_add]
    congr 2
    rw [Nat.mul_add, ← Nat.mul_assoc]
    omega
theorem DecIn.out {n q : Nat} {ds : List Nat} {r : Nat} (h : DecIn n q ds 9 r) : DecInv n q ds := by
  have h1 := h.rem
  have h2 := h.val_
  simp only [Nat.sub_self, Nat.pow_zero] at h1 h2
  obtain rfl : r = 0 := by omega
  exact ⟨h.lt, by simpa using h2⟩
theorem DecInv.more {n X : Nat} {ds : List Nat} (h : DecInv n X ds) (hX : X ≠ 0) : ds.length < nd n := by
  apply Nat.lt_of_not_le; intro hle
  have h1 := nd_le.1 hle
  have h2 := h.val_
  have : 10 ^ ds.length * 1 ≤ 10 ^ ds.length * X := Nat.mul_le_mul_left _ (by omega)
  omega
end Go.Proofs.Ytpbcbomlhcbfjaa.M
