/- A bundle of texts: Num1. -/
import Derived.Test.YtciolgmljpamlaaGreatDoorProg
import Derived.Test.YtciolgmljpamlaaGreatDoorC01
import Derived.RegionTactic
import Derived.BigRegion
import Derived.StillTailTactics
import Derived.Shelf.Small.Bits
section
/- Plain arithmetic of layer 1: natural numbers as lists of digits in a base, the lowest digit first, without zeros at the end. No program in sight. -/
namespace Go.Proofs.YtciolgmljpamlaaGreatDoor.M
def val (b : Nat) : List Nat → Nat
  | [] => 0
  | d :: l => d + b * val b l
theorem val_append (b : Nat) (l m : List Nat) : val b (l ++ m) = val b l + b ^ l.length * val b m := by
  induction l with
  | nil => simp [val]
  | cons d l ih => simp [val, ih, Nat.pow_succ]; rw [Nat.mul_add, ← Nat.mul_assoc, Nat.mul_comm b (b ^ l.length), Nat.add_assoc]
theorem val_zeros (b n : Nat) : val b (List.replicate n 0) = 0 := by
  induction n with
  | zero => rfl
  | succ n ih => simp [List.replicate_succ, val, ih]
theorem val_lt {b : Nat} (hb : 0 < b) : ∀ {l : List Nat}, (∀ d ∈ l, d < b) → val b l < b ^ l.length
  | [], _ => by simp [val]
  | d :: l, h => by
    have h1 := val_lt hb (l := l) (fun x hx => h x (by simp [hx]))
    have h2 := h d (by simp)
    simp only [val, List.length_cons, Nat.pow_succ]
    have : val b l + 1 ≤ b ^ l.length := h1
    have h3 := Nat.mul_le_mul_left b this
    rw [Nat.mul_comm (b ^ l.length) b]
    rw [Nat.mul_add] at h3
    omega
def dig (b : Nat) : Nat → Nat → List Nat
  | 0, _ => []
  | f + 1, n => if n = 0 then [] else (n % b) :: dig b f (n / b)
def Canon (l : List Nat) : Prop := ∀ h : l ≠ [], l.getLast h ≠ 0
theorem canon_zero {b : Nat} (hb : 1 < b) : ∀ (l : List Nat), Canon l → val b l = 0 → l = []
  | [], _, _ => rfl
  | x :: l, c, hv => by
    exfalso
    simp only [val] at hv
    have h2 : b * val b l = 0 := by omega
    have h3 : val b l = 0 := by
      rcases Nat.mul_eq_zero.1 h2 with h | h
      · omega
      · exact h
    by_cases hl : l = []
    · subst hl
      exact c (by simp) (by simp; omega)
    · have c1 : Canon l := fun hne => by have := c (by simp); rwa [List.getLast_cons hne] at this
      exact hl (canon_zero hb l c1 h3)
theorem canon_uniq {b : Nat} (hb : 1 < b) : ∀ (l m : List Nat), (∀ d ∈ l, d < b) → (∀ d ∈ m, d < b) → Canon l → Canon m → val b l = val b m → l = m
  | [], m, _, _, _, cm, h => (canon_zero hb m cm h.symm).symm
  | d :: l, [], _, _, cl, _, h => canon_zero hb _ cl h
  | d :: l, e :: m, hl, hm, cl, cm, h => by
    simp only [val] at h
    have h1 := hl d (by simp)
    have h2 := hm e (by simp)
    have e1 : d = e := by
      have := congrArg (· % b) h
      simp only [Nat.add_mul_mod_self_left, Nat.mod_eq_of_lt h1, Nat.mod_eq_of_lt h2] at this
      exact this
    subst e1
    have e2 : val b l = val b m := Nat.eq_of_mul_eq_mul_left (by omega) (Nat.add_left_cancel h)
    have c1 : Canon l := fun hne => by have := cl (by simp); rwa [List.getLast_cons hne] at this
    have c2 : Canon m := fun hne => by have := cm (by simp); rwa [List.getLast_cons hne] at this
    rw [canon_uniq hb l m (fun x hx => hl x (by simp [hx])) (fun x hx => hm x (by simp [hx])) c1 c2 e2]
theorem dig_val {b : Nat} (hb : 1 < b) : ∀ (f n : Nat), n ≤ f → val b (dig b f n) = n
  | 0, n, h => by simp [dig, val]; omega
  | f + 1, n, h => by
    simp only [dig]
    split
    · simp [val]; omega
    · rename_i h0
      have : n / b < n := Nat.div_lt_self (by omega) hb
      simp only [val, dig_val hb f (n / b) (by omega)]
      rw [Nat.add_comm]; exact Nat.div_add_mod n b
theorem dig_lt {b : Nat} (hb : 1 < b) : ∀ (f n : Nat), ∀ d ∈ dig b f n, d < b
  | 0, _, d, h => by simp [dig] at h
  | f + 1, n, d, h => by
    simp only [dig] at h
    split at h
    · simp at h
    · rcases List.mem_cons.1 h with rfl | h
      · exact Nat.mod_lt _ (by omega)
      · exact dig_lt hb f _ d h
theorem dig_canon {b : Nat} (hb : 1 < b) : ∀ (f n : Nat), n ≤ f → Canon (dig b f n)
  | 0, n, h => by intro h; simp [dig] at h
  | f + 1, n, h => by
    intro hne
    simp only [dig] at hne ⊢
    split at hne
    · exact absurd rfl hne
    · rename_i h0
      simp only [h0, if_false]
      have hlt : n / b < n := Nat.div_lt_self (by omega) hb
      by_cases hq : dig b f (n / b) = []
      · simp only [hq, List.getLast_singleton]
        have hv := dig_val hb f (n / b) (by omega)
        rw [hq] at hv
        simp only [val] at hv
        have := Nat.div_add_mod n b
        rw [← hv] at this
        omega
      · rw [List.getLast_cons hq]
        exact dig_canon hb f (n / b) (by omega) hq
def wds (n : Nat) : List Nat := dig 4294967296 n n
def byt (n : Nat) : List Nat := (dig 256 n n).reverse
theorem wds_val (n : Nat) : val 4294967296 (wds n) = n := dig_val (by decide) n n (Nat.le_refl _)
theorem wds_lt (n : Nat) : ∀ d ∈ wds n, d < 4294967296 := dig_lt (by decide) n n
theorem wds_canon (n : Nat) : Canon (wds n) := dig_canon (by decide) n n (Nat.le_refl _)
theorem wds_eq {l : List Nat} {n : Nat} (h : ∀ d ∈ l, d < 4294967296) (c : Canon l) (hv : val 4294967296 l = n) : l = wds n :=
  canon_uniq (by decide) _ _ h (wds_lt n) c (wds_canon n) (hv.trans (wds_val n).symm)
theorem byt_rev (n : Nat) : (byt n).reverse = dig 256 n n := by simp [byt]
theorem byt_val (n : Nat) : val 256 (byt n).reverse = n := by rw [byt_rev]; exact dig_val (by decide) n n (Nat.le_refl _)
theorem byt_lt (n : Nat) : ∀ d ∈ byt n, d < 256 := fun d hd => dig_lt (by decide) n n d (by simpa [byt] using hd)
def trm : List Nat → List Nat
  | [] => []
  | d :: l => match trm l with
    | [] => if d = 0 then [] else [d]
    | m => d :: m
theorem trm_val (b : Nat) (l : List Nat) : val b (trm l) = val b l := by
  induction l with
  | nil => rfl
  | cons d l ih =>
    simp only [trm]
    split
    · rename_i h
      rw [h] at ih
      simp only [val] at ih
      split
      · simp only [val, ← ih]; omega
      · simp only [val, ← ih]
    · simp only [val, ih]
theorem trm_canon (l : List Nat) : Canon (trm l) := by
  induction l with
  | nil => intro h; exact absurd rfl h
  | cons d l ih =>
    cases ht : trm l with
    | nil =>
      by_cases h0 : d = 0
      · have e : trm (d :: l) = [] := by simp [trm, ht, h0]
        rw [e]; intro h; exact absurd rfl h
      · have e : trm (d :: l) = [d] := by simp [trm, ht, h0]
        rw [e]; intro h; simpa using h0
    | cons x m =>
      have e : trm (d :: l) = d :: x :: m := by simp [trm, ht]
      rw [e]
      intro h
      rw [List.getLast_cons (by simp)]
      rw [ht] at ih
      exact ih (by simp)
theorem trm_snoc_zero (l : List Nat) : trm (l ++ [0]) = trm l := by
  induction l with
  | nil => simp [trm]
  | cons d l ih => simp only [List.cons_append, trm, ih]
theorem trm_snoc_pos (l : List Nat) {d : Nat} (h : d ≠ 0) : trm (l ++ [d]) = l ++ [d] := by
  induction l with
  | nil => simp [trm, h]
  | cons x l ih =>
    simp only [List.cons_append, trm, ih]
    split
    · rename_i he; simp at he
    · rfl
theorem trm_mem {l : List Nat} : ∀ d ∈ trm l, d ∈ l := by
  induction l with
  | nil => intro d h; exact h
  | cons x l ih =>
    intro d hd
    simp only [trm] at hd
    split at hd
    · split at hd
      · simp at hd
      · simp at hd; simp [hd]
    · rcases List.mem_cons.1 hd with rfl | h
      · simp
      · simp [ih d h]
theorem trm_wds {l : List Nat} (h : ∀ d ∈ l, d < 4294967296) : trm l = wds (val 4294967296 l) :=
  wds_eq (fun d hd => h d (trm_mem d hd)) (trm_canon l) (trm_val _ l)
theorem val_set (b : Nat) : ∀ (l : List Nat) (k : Nat) (h : k < l.length) (d : Nat), val b (l.set k (l[k] + d)) = val b l + d * b ^ k
  | x :: l, 0, _, d => by simp [val]; omega
  | x :: l, k + 1, h, d => by
    simp only [List.set_cons_succ, val, List.getElem_cons_succ]
    rw [val_set b l k (by simpa using h) d, Nat.mul_add, Nat.pow_succ, Nat.add_assoc]
    congr 2
    rw [Nat.mul_left_comm, Nat.mul_comm b]
structure NatInv (r X : List Nat) (n i : Nat) : Prop where
  len : X.length = n
  lt : ∀ d ∈ X, d < 4294967296
  val_ : val 4294967296 X = val 256 (r.take i)
  at_ : ∀ h : i / 4 < X.length, X[i / 4] < 256 ^ (i % 4)
  zero : ∀ q (h : q < X.length), i / 4 < q → X[q] = 0
theorem NatInv.start (r : List Nat) (n : Nat) : NatInv r (List.replicate n 0) n 0 :=
  ⟨by simp, fun d hd => by simp at hd; omega, by simp [val, val_zeros], fun h => by simp, fun q h _ => by simp⟩
theorem pow_split (k : Nat) : 4294967296 ^ (k / 4) * 256 ^ (k % 4) = 256 ^ k := by
  have e : (4294967296 : Nat) = 256 ^ 4 := by decide
  rw [e, ← Nat.pow_mul, ← Nat.pow_add, Nat.div_add_mod]
theorem NatInv.step {r X : List Nat} {n k y x : Nat} (h : NatInv r X n k) (hk : k < r.length) (hy : r[k] = y) (hy8 : y < 256) (hq : k / 4 < X.length) (hx : X[k / 4] = x) :
    NatInv r (X.set (k / 4) (x + y * 256 ^ (k % 4))) n (k + 1) := by
  have hxb : x < 256 ^ (k % 4) := by rw [← hx]; exact h.at_ hq
  have hm : k % 4 < 4 := Nat.mod_lt _ (by decide)
  have hp : 256 ^ (k % 4 + 1) ≤ 4294967296 := by
    have : 256 ^ (k % 4 + 1) ≤ 256 ^ 4 := Nat.pow_le_pow_right (by decide) (by omega)
    simpa using this
  have hb : x + y * 256 ^ (k % 4) < 256 ^ (k % 4 + 1) := by
    have : y * 256 ^ (k % 4) ≤ 255 * 256 ^ (k % 4) := Nat.mul_le_mul_right _ (by omega)
    rw [Nat.pow_succ]; omega
  refine ⟨by simp [h.len], fun d hd => ?_, ?_, fun h2 => ?_, fun q h2 hlt => ?_⟩
  · rcases List.mem_or_eq_of_mem_set hd with hd | rfl
    · exact h.lt d hd
    · omega
  · subst hx
    rw [val_set, h.val_, List.take_succ_eq_append_getElem hk, val_append, hy, List.length_take, Nat.min_eq_left (by omega)]
    simp only [val, Nat.mul_zero, Nat.add_zero]
    rw [Nat.mul_assoc, Nat.mul_comm (256 ^ (k % 4)), pow_split, Nat.mul_comm]
  · rw [List.getElem_set]
    split
    · rename_i e
      have : (k + 1) % 4 = k % 4 + 1 := by omega
      rw [this]; exact hb
    · rename_i e
      have h3 : (k + 1) / 4 < X.length := by simpa using h2
      have := h.zero _ h3 (by omega)
      rw [this]
      exact Nat.pow_pos (by decide)
  · rw [List.getElem_set_ne (by omega)]
    exact h.zero q (by simpa using h2) (by omega)
theorem NatInv.fin {r X : List Nat} {n : Nat} (h : NatInv r X n r.length) : trm X = wds (val 256 r) := by
  rw [trm_wds h.lt, h.val_, List.take_length]
theorem dig_len {b : Nat} (hb : 1 < b) : ∀ (f n k : Nat), n ≤ f → ((dig b f n).length ≤ k ↔ n < b ^ k)
  | 0, n, k, h => by
    obtain rfl : n = 0 := by omega
    simp [dig, Nat.pow_pos (show 0 < b by omega)]
  | f + 1, n, k, h => by
    simp only [dig]
    split
    · rename_i h0; subst h0; simp [Nat.pow_pos (show 0 < b by omega)]
    · rename_i h0
      have hlt : n / b < n := Nat.div_lt_self (by omega) hb
      cases k with
      | zero => simp; omega
      | succ k =>
        simp only [List.length_cons, Nat.add_le_add_iff_right]
        rw [dig_len hb f (n / b) k (by omega), Nat.div_lt_iff_lt_mul (by omega), Nat.pow_succ]
theorem dig_at {b : Nat} (hb : 1 < b) : ∀ (f n i : Nat) (h : i < (dig b f n).length), (dig b f n)[i] = n / b ^ i % b
  | 0, n, i, h => by simp [dig] at h
  | f + 1, n, i, h => by
    by_cases h0 : n = 0
    · exfalso; rw [h0] at h; simp [dig] at h
    · have e : dig b (f + 1) n = (n % b) :: dig b f (n / b) := by simp [dig, h0]
      simp only [e] at h ⊢
      cases i with
      | zero => simp
      | succ i =>
        rw [List.getElem_cons_succ, dig_at hb f (n / b) i (by simpa using h), Nat.div_div_eq_div_mul, Nat.pow_succ, Nat.mul_comm b]
theorem wds_len {n k : Nat} : (wds n).length ≤ k ↔ n < 4294967296 ^ k := dig_len (by decide) n n k (Nat.le_refl _)
theorem byt_len {n k : Nat} : (byt n).length ≤ k ↔ n < 256 ^ k := by
  unfold byt; rw [List.length_reverse]; exact dig_len (by decide) n n k (Nat.le_refl _)
theorem wds_at {n i : Nat} (h : i < (wds n).length) : (wds n)[i] = n / 4294967296 ^ i % 4294967296 := dig_at (by decide) n n i h
theorem byt_at {n i : Nat} (h : i < (byt n).length) : (byt n)[(byt n).length - 1 - i] = n / 256 ^ i % 256 := by
  have h' : i < (dig 256 n n).length := by simpa [byt] using h
  rw [← dig_at (by decide) n n i h']
  unfold byt
  simp only [List.length_reverse, List.getElem_reverse]
  congr 1
  omega
theorem byte_of {n i : Nat} (h : i < (byt n).length) : ∃ hq : i / 4 < (wds n).length, (wds n)[i / 4] / 256 ^ (i % 4) % 256 = n / 256 ^ i % 256 := by
  have hq : i / 4 < (wds n).length := by
    apply Nat.lt_of_not_le; intro hle
    have h1 := wds_len.1 hle
    have h2 : (4294967296 : Nat) ^ (i / 4) ≤ 256 ^ i := by
      rw [← pow_split i]
      exact Nat.le_mul_of_pos_right _ (Nat.pow_pos (by decide))
    have := byt_len.2 (Nat.lt_of_lt_of_le h1 h2)
    omega
  refine ⟨hq, ?_⟩
  rw [wds_at, ← pow_split i, ← Nat.div_div_eq_div_mul]
  generalize n / 4294967296 ^ (i / 4) = a
  have hm : i % 4 < 4 := Nat.mod_lt _ (by decide)
  generalize i % 4 = r at *
  have e : (4294967296 : Nat) = 256 ^ r * (256 * 256 ^ (3 - r)) := by
    have : (256 : Nat) ^ r * (256 * 256 ^ (3 - r)) = 256 ^ (r + 1 + (3 - r)) := by rw [Nat.pow_add, Nat.pow_succ, Nat.mul_assoc]
    rw [this, show r + 1 + (3 - r) = 4 by omega]
  rw [e, Nat.mod_mul_right_div_self]
  exact Nat.mod_mod_of_dvd _ (Nat.dvd_mul_right _ _)
theorem val_put (b : Nat) : ∀ (l : List Nat) (k : Nat) (h : k < l.length) (v : Nat), val b (l.set k v) + l[k] * b ^ k = val b l + v * b ^ k
  | x :: l, 0, _, v => by simp [val]; omega
  | x :: l, k + 1, h, v => by
    have ih := val_put b l k (by simpa using h) v
    simp only [List.set_cons_succ, val, List.getElem_cons_succ, Nat.pow_succ]
    have e1 : l[k]'(by simpa using h) * (b ^ k * b) = b * (l[k]'(by simpa using h) * b ^ k) := by rw [Nat.mul_comm (b ^ k) b, Nat.mul_left_comm]
    have e2 : v * (b ^ k * b) = b * (v * b ^ k) := by rw [Nat.mul_comm (b ^ k) b, Nat.mul_left_comm]
    rw [e1, e2, Nat.add_assoc, Nat.add_assoc, ← Nat.mul_add, ← Nat.mul_add, ih]
theorem val_take {b : Nat} {l : List Nat} {k : Nat} (h : k < l.length) : val b (l.take (k + 1)) = val b (l.take k) + l[k] * b ^ k := by
  rw [List.take_succ_eq_append_getElem h, val_append, List.length_take, Nat.min_eq_left (by omega)]
  simp [val, Nat.mul_comm]
structure MulOut (xs ys out : List Nat) (i : Nat) : Prop where
  len : out.length = xs.length + ys.length
  lt : ∀ d ∈ out, d < 4294967296
  val_ : val 4294967296 out = val 4294967296 (xs.take i) * val 4294967296 ys
  zero : ∀ q (h : q < out.length), i + ys.length ≤ q → out[q] = 0
structure MulIn (xs ys out : List Nat) (i j c a : Nat) : Prop where
  len : out.length = xs.length + ys.length
  lt : ∀ d ∈ out, d < 4294967296
  car : c < 4294967296
  val_ : val 4294967296 out + c * 4294967296 ^ (i + j) = val 4294967296 (xs.take i) * val 4294967296 ys + a * val 4294967296 (ys.take j) * 4294967296 ^ i
  zero : ∀ q (h : q < out.length), i + ys.length ≤ q → out[q] = 0
theorem MulOut.start (xs ys : List Nat) : MulOut xs ys (List.replicate (xs.length + ys.length) 0) 0 :=
  ⟨by simp, fun d hd => by simp at hd; omega, by simp [val, val_zeros], fun q h _ => by simp⟩
theorem MulOut.in_ {xs ys out : List Nat} {i : Nat} (h : MulOut xs ys out i) (a : Nat) : MulIn xs ys out i 0 0 a :=
  ⟨h.len, h.lt, by decide, by simp [val, h.val_], h.zero⟩
theorem carry_bd {a y o c : Nat} (ha : a < 4294967296) (hy : y < 4294967296) (ho : o < 4294967296) (hc : c < 4294967296) : a * y + o + c < 18446744073709551616 := by
  have : a * y ≤ 4294967295 * 4294967295 := Nat.mul_le_mul (by omega) (by omega)
  omega
theorem MulIn.step {xs ys out : List Nat} {i j c a y o : Nat} (h : MulIn xs ys out i j c a) (hj : j < ys.length) (ha : a < 4294967296) (hy : ys[j] = y) (hy32 : y < 4294967296) (hq : i + j < out.length) (ho : out[i + j] = o) :
    MulIn xs ys (out.set (i + j) ((c + (a * y + o)) % 4294967296)) i (j + 1) ((c + (a * y + o)) / 4294967296) a := by
  have ho32 : o < 4294967296 := by rw [← ho]; exact h.lt _ (List.getElem_mem _)
  have hb := carry_bd ha hy32 ho32 h.car
  refine ⟨by simp [h.len], fun d hd => ?_, ?_, ?_, fun q h2 hlt => ?_⟩
  · rcases List.mem_or_eq_of_mem_set hd with hd | rfl
    · exact h.lt d hd
    · exact Nat.mod_lt _ (by decide)
  · omega
  · have hv := h.val_
    have hp := val_put 4294967296 out (i + j) hq ((c + (a * y + o)) % 4294967296)
    rw [ho] at hp
    rw [val_take hj, hy, Nat.mul_add, Nat.add_mul]
    have e1 : a * (y * 4294967296 ^ j) * 4294967296 ^ i = a * y * 4294967296 ^ (i + j) := by
      rw [Nat.pow_add, Nat.mul_comm (4294967296 ^ i), ← Nat.mul_assoc, ← Nat.mul_assoc]
    have e2 : (c + (a * y + o)) / 4294967296 * 4294967296 ^ (i + (j + 1)) = (c + (a * y + o)) / 4294967296 * 4294967296 * 4294967296 ^ (i + j) := by
      have : (4294967296 : Nat) ^ (i + (j + 1)) = 4294967296 * 4294967296 ^ (i + j) := by
        rw [show i + (j + 1) = (i + j) + 1 from rfl, Nat.pow_succ, Nat.mul_comm]
      rw [this, Nat.mul_assoc]
    rw [e1, e2]
    generalize 4294967296 ^ (i + j) = T at *
    generalize val 4294967296 (out.set (i + j) ((c + (a * y + o)) % 4294967296)) = V' at *
    generalize val 4294967296 out = V at *
    generalize val 4294967296 (List.take i xs) * val 4294967296 ys = P0 at *
    generalize a * val 4294967296 (List.take j ys) * 4294967296 ^ i = P1 at *
    have hdm := Nat.div_add_mod (c + (a * y + o)) 4294967296
    generalize (c + (a * y + o)) / 4294967296 = Q at *
    generalize (c + (a * y + o)) % 4294967296 = R at *
    have e3 : (4294967296 * Q + R) * T = (c + (a * y + o)) * T := by rw [hdm]
    rw [Nat.add_mul, Nat.add_mul, Nat.add_mul, Nat.mul_comm 4294967296 Q] at e3
    omega
  · rw [List.getElem_set_ne (by omega)]
    exact h.zero q (by simpa using h2) hlt
theorem MulIn.out {xs ys out : List Nat} {i c a : Nat} (h : MulIn xs ys out i ys.length c a) (hi : i < xs.length) (ha : xs[i] = a) : ∃ hq : i + ys.length < out.length, MulOut xs ys (out.set (i + ys.length) c) (i + 1) := by
  have hq : i + ys.length < out.length := by have := h.len; omega
  refine ⟨hq, by simp [h.len], fun d hd => ?_, ?_, fun q h2 hlt => ?_⟩
  · rcases List.mem_or_eq_of_mem_set hd with hd | rfl
    · exact h.lt d hd
    · exact h.car
  · have hv := h.val_
    have hp := val_put 4294967296 out (i + ys.length) hq c
    rw [h.zero _ hq (Nat.le_refl _), Nat.zero_mul, Nat.add_zero] at hp
    rw [hp, hv, List.take_length, val_take hi, ha, Nat.add_mul]
    congr 1
    rw [Nat.mul_assoc, Nat.mul_assoc, Nat.mul_comm (val 4294967296 ys)]
  · rw [List.getElem_set_ne (by omega)]
    exact h.zero q (by simpa using h2) (by omega)
theorem MulOut.fin {xs ys out : List Nat} (h : MulOut xs ys out xs.length) : trm out = wds (val 4294967296 xs * val 4294967296 ys) := by
  rw [trm_wds h.lt, h.val_, List.take_length]
structure DivInv (x q : List Nat) (d i r : Nat) : Prop where
  len : q.length = x.length
  lt : ∀ e ∈ q, e < 4294967296
  val_ : val 4294967296 (q.drop i) * d + r = val 4294967296 (x.drop i)
  rem : r < d
theorem DivInv.start (x : List Nat) {d : Nat} (hd : 0 < d) : DivInv x (List.replicate x.length 0) d x.length 0 :=
  ⟨by simp, fun e he => by simp at he; omega, by simp [val], hd⟩
theorem DivInv.step {x q : List Nat} {d j r y : Nat} (h : DivInv x q d (j + 1) r) (hj : j < x.length) (hy : x[j] = y) (hy32 : y < 4294967296) (hd : d < 4294967296) :
    (r * 4294967296 + y) / d < 4294967296 ∧ DivInv x (q.set j ((r * 4294967296 + y) / d)) d j ((r * 4294967296 + y) % d) := by
  have hr := h.rem
  have hjq : j < q.length := by rw [h.len]; exact hj
  have hlt : (r * 4294967296 + y) / d < 4294967296 := by
    rw [Nat.div_lt_iff_lt_mul (by omega)]
    have : (r + 1) * 4294967296 ≤ d * 4294967296 := Nat.mul_le_mul_right _ hr
    rw [Nat.mul_comm 4294967296 d]
    omega
  refine ⟨hlt, by simp [h.len], fun e he => ?_, ?_, Nat.mod_lt _ (by omega)⟩
  · rcases List.mem_or_eq_of_mem_set he with he | rfl
    · exact h.lt e he
    · exact hlt
  · have e1 : (q.set j ((r * 4294967296 + y) / d)).drop j = (r * 4294967296 + y) / d :: q.drop (j + 1) := by
      rw [List.drop_eq_getElem_cons (by simpa using hjq), List.getElem_set_self, List.drop_set_of_lt (by omega)]
    have e2 : x.drop j = y :: x.drop (j + 1) := by rw [List.drop_eq_getElem_cons hj, hy]
    rw [e1, e2]
    simp only [val]
    have hv := h.val_
    have hdm := Nat.div_add_mod (r * 4294967296 + y) d
    rw [← hv, Nat.add_mul, Nat.mul_assoc 4294967296]
    generalize val 4294967296 (q.drop (j + 1)) * d = T at *
    rw [Nat.mul_comm d] at hdm
    generalize (r * 4294967296 + y) / d * d = U at *
    omega
theorem DivInv.fin {x q : List Nat} {d n r : Nat} (h : DivInv x q d 0 r) (hn : val 4294967296 x = n) : trm q = wds (n / d) ∧ r = n % d := by
  have hv := h.val_
  rw [List.drop_zero, List.drop_zero, hn] at hv
  have hr := h.rem
  have e1 : n / d = val 4294967296 q := by
    rw [← hv, Nat.add_comm, Nat.add_mul_div_right _ _ (by omega), Nat.div_eq_of_lt hr, Nat.zero_add]
  have e2 : n % d = r := by
    rw [← hv, Nat.add_comm, Nat.add_mul_mod_self_right, Nat.mod_eq_of_lt hr]
  exact ⟨by rw [e1, trm_wds h.lt], e2.symm⟩
def nd (n : Nat) : Nat := (dig 10 n n).length
theorem nd_le {n k : Nat} : nd n ≤ k ↔ n < 10 ^ k := dig_len (by decide) n n k (Nat.le_refl _)
theorem dec_eq {l : List Nat} {n : Nat} (h : ∀ d ∈ l, d < 10) (hv : val 10 l = n) : trm l = dig 10 n n :=
  canon_uniq (by decide) _ _ (fun d hd => h d (trm_mem d hd)) (dig_lt (by decide) n n) (trm_canon l) (dig_canon (by decide) n n (Nat.le_refl _)) (by rw [trm_val, hv, dig_val (by decide) n n (Nat.le_refl _)])
structure DecInv (n X : Nat) (ds : List Nat) : Prop where
  lt : ∀ d ∈ ds, d < 10
  val_ : val 10 ds + 10 ^ ds.length * X = n
structure DecIn (n q : Nat) (ds : List Nat) (j r : Nat) : Prop where
  lt : ∀ d ∈ ds, d < 10
  rem : r < 10 ^ (9 - j)
  val_ : val 10 ds + 10 ^ ds.length * (r + 10 ^ (9 - j) * q) = n
theorem DecInv.in_ {n X : Nat} {ds : List Nat} (h : DecInv n X ds) : DecIn n (X / 1000000000) ds 0 (X % 1000000000) :=
  ⟨h.lt, Nat.mod_lt _ (by decide), by
    have := h.val_
    rw [show (10 : Nat) ^ (9 - 0) = 1000000000 by decide, Nat.mod_add_div]
    exact this⟩
theorem DecIn.step {n q : Nat} {ds : List Nat} {j r : Nat} (h : DecIn n q ds j r) (hj : j < 9) : DecIn n q (ds ++ [r % 10]) (j + 1) (r / 10) := by
  have e : 10 ^ (9 - j) = 10 * 10 ^ (9 - (j + 1)) := by
    rw [show 9 - j = (9 - (j + 1)) + 1 by omega, Nat.pow_succ, Nat.mul_comm]
  refine ⟨fun d hd => ?_, ?_, ?_⟩
  · rcases List.mem_append.1 hd with hd | hd
    · exact h.lt d hd
    · simp at hd; omega
  · have := h.rem
    rw [e] at this
    omega
  · have hv := h.val_
    rw [val_append, ← hv, e, List.length_append, Nat.pow_add]
    simp only [val, List.length_singleton, Nat.pow_one, Nat.mul_zero, Nat.add_zero]
    rw [Nat.add_assoc, Nat.mul_assoc (10 ^ ds.length) 10, ← Nat.mul_add]
    congr 2
    rw [Nat.mul_add, ← Nat.mul_assoc]
    omega
theorem DecIn.out {n q : Nat} {ds : List Nat} {r : Nat} (h : DecIn n q ds 9 r) : DecInv n q ds := by
  have h1 := h.rem
  have h2 := h.val_
  simp only [Nat.sub_self, Nat.pow_zero] at h1 h2
  obtain rfl : r = 0 := by omega
  exact ⟨h.lt, by simpa using h2⟩
theorem DecInv.more {n X : Nat} {ds : List Nat} (h : DecInv n X ds) (hX : X ≠ 0) : ds.length < nd n := by
  apply Nat.lt_of_not_le; intro hle
  have h1 := nd_le.1 hle
  have h2 := h.val_
  have : 10 ^ ds.length * 1 ≤ 10 ^ ds.length * X := Nat.mul_le_mul_left _ (by omega)
  omega
end Go.Proofs.YtciolgmljpamlaaGreatDoor.M
/- Plain arithmetic of layer 1's reference: natural numbers as bytes, the lowest first. No program in sight. -/
namespace Go.Proofs.YtciolgmljpamlaaGreatDoor.M
def lb (n : Nat) : List Nat := dig 256 n n
theorem lb_val (n : Nat) : val 256 (lb n) = n := dig_val (by decide) n n (Nat.le_refl _)
theorem lb_lt (n : Nat) : ∀ d ∈ lb n, d < 256 := dig_lt (by decide) n n
theorem lb_canon (n : Nat) : Canon (lb n) := dig_canon (by decide) n n (Nat.le_refl _)
theorem lb_eq {l : List Nat} {n : Nat} (h : ∀ d ∈ l, d < 256) (c : Canon l) (hv : val 256 l = n) : l = lb n :=
  canon_uniq (by decide) _ _ h (lb_lt n) c (lb_canon n) (hv.trans (lb_val n).symm)
theorem lb_byt (n : Nat) : (byt n).reverse = lb n := byt_rev n
theorem lb_len {n k : Nat} : (lb n).length ≤ k ↔ n < 256 ^ k := dig_len (by decide) n n k (Nat.le_refl _)
theorem lb_at {n i : Nat} (h : i < (lb n).length) : (lb n)[i] = n / 256 ^ i % 256 := dig_at (by decide) n n i h
theorem trm_lb {l : List Nat} (h : ∀ d ∈ l, d < 256) : trm l = lb (val 256 l) :=
  lb_eq (fun d hd => h d (trm_mem d hd)) (trm_canon l) (trm_val _ l)
structure MulOutB (xs ys out : List Nat) (i : Nat) : Prop where
  len : out.length = xs.length + ys.length
  lt : ∀ d ∈ out, d < 256
  val_ : val 256 out = val 256 (xs.take i) * val 256 ys
  zero : ∀ q (h : q < out.length), i + ys.length ≤ q → out[q] = 0
structure MulInB (xs ys out : List Nat) (i j c a : Nat) : Prop where
  len : out.length = xs.length + ys.length
  lt : ∀ d ∈ out, d < 256
  car : c < 256
  val_ : val 256 out + c * 256 ^ (i + j) = val 256 (xs.take i) * val 256 ys + a * val 256 (ys.take j) * 256 ^ i
  zero : ∀ q (h : q < out.length), i + ys.length ≤ q → out[q] = 0
theorem MulOutB.start (xs ys : List Nat) : MulOutB xs ys (List.replicate (xs.length + ys.length) 0) 0 :=
  ⟨by simp, fun d hd => by simp at hd; omega, by simp [val, val_zeros], fun q h _ => by simp⟩
theorem MulOutB.in_ {xs ys out : List Nat} {i : Nat} (h : MulOutB xs ys out i) (a : Nat) : MulInB xs ys out i 0 0 a :=
  ⟨h.len, h.lt, by decide, by simp [val, h.val_], h.zero⟩
theorem carry_bdB {a y o c : Nat} (ha : a < 256) (hy : y < 256) (ho : o < 256) (hc : c < 256) : a * y + o + c < 65536 := by
  have : a * y ≤ 255 * 255 := Nat.mul_le_mul (by omega) (by omega)
  omega
theorem MulInB.step {xs ys out : List Nat} {i j c a y o : Nat} (h : MulInB xs ys out i j c a) (hj : j < ys.length) (ha : a < 256) (hy : ys[j] = y) (hy32 : y < 256) (hq : i + j < out.length) (ho : out[i + j] = o) :
    MulInB xs ys (out.set (i + j) ((c + (a * y + o)) % 256)) i (j + 1) ((c + (a * y + o)) / 256) a := by
  have ho32 : o < 256 := by rw [← ho]; exact h.lt _ (List.getElem_mem _)
  have hb := carry_bdB ha hy32 ho32 h.car
  refine ⟨by simp [h.len], fun d hd => ?_, ?_, ?_, fun q h2 hlt => ?_⟩
  · rcases List.mem_or_eq_of_mem_set hd with hd | rfl
    · exact h.lt d hd
    · exact Nat.mod_lt _ (by decide)
  · omega
  · have hv := h.val_
    have hp := val_put 256 out (i + j) hq ((c + (a * y + o)) % 256)
    rw [ho] at hp
    rw [val_take hj, hy, Nat.mul_add, Nat.add_mul]
    have e1 : a * (y * 256 ^ j) * 256 ^ i = a * y * 256 ^ (i + j) := by
      rw [Nat.pow_add, Nat.mul_comm (256 ^ i), ← Nat.mul_assoc, ← Nat.mul_assoc]
    have e2 : (c + (a * y + o)) / 256 * 256 ^ (i + (j + 1)) = (c + (a * y + o)) / 256 * 256 * 256 ^ (i + j) := by
      have : (256 : Nat) ^ (i + (j + 1)) = 256 * 256 ^ (i + j) := by
        rw [show i + (j + 1) = (i + j) + 1 from rfl, Nat.pow_succ, Nat.mul_comm]
      rw [this, Nat.mul_assoc]
    rw [e1, e2]
    generalize 256 ^ (i + j) = T at *
    generalize val 256 (out.set (i + j) ((c + (a * y + o)) % 256)) = V' at *
    generalize val 256 out = V at *
    generalize val 256 (List.take i xs) * val 256 ys = P0 at *
    generalize a * val 256 (List.take j ys) * 256 ^ i = P1 at *
    have hdm := Nat.div_add_mod (c + (a * y + o)) 256
    generalize (c + (a * y + o)) / 256 = Q at *
    generalize (c + (a * y + o)) % 256 = R at *
    have e3 : (256 * Q + R) * T = (c + (a * y + o)) * T := by rw [hdm]
    rw [Nat.add_mul, Nat.add_mul, Nat.add_mul, Nat.mul_comm 256 Q] at e3
    omega
  · rw [List.getElem_set_ne (by omega)]
    exact h.zero q (by simpa using h2) hlt
theorem MulInB.out {xs ys out : List Nat} {i c a : Nat} (h : MulInB xs ys out i ys.length c a) (hi : i < xs.length) (ha : xs[i] = a) : ∃ hq : i + ys.length < out.length, MulOutB xs ys (out.set (i + ys.length) c) (i + 1) := by
  have hq : i + ys.length < out.length := by have := h.len; omega
  refine ⟨hq, by simp [h.len], fun d hd => ?_, ?_, fun q h2 hlt => ?_⟩
  · rcases List.mem_or_eq_of_mem_set hd with hd | rfl
    · exact h.lt d hd
    · exact h.car
  · have hv := h.val_
    have hp := val_put 256 out (i + ys.length) hq c
    rw [h.zero _ hq (Nat.le_refl _), Nat.zero_mul, Nat.add_zero] at hp
    rw [hp, hv, List.take_length, val_take hi, ha, Nat.add_mul]
    congr 1
    rw [Nat.mul_assoc, Nat.mul_assoc, Nat.mul_comm (val 256 ys)]
  · rw [List.getElem_set_ne (by omega)]
    exact h.zero q (by simpa using h2) (by omega)
theorem MulOutB.fin {xs ys out : List Nat} (h : MulOutB xs ys out xs.length) : trm out = lb (val 256 xs * val 256 ys) := by
  rw [trm_lb h.lt, h.val_, List.take_length]
structure DivInvB (x q : List Nat) (d i r : Nat) : Prop where
  len : q.length = x.length
  lt : ∀ e ∈ q, e < 256
  val_ : val 256 (q.drop i) * d + r = val 256 (x.drop i)
  rem : r < d
theorem DivInvB.start (x : List Nat) {d : Nat} (hd : 0 < d) : DivInvB x (List.replicate x.length 0) d x.length 0 :=
  ⟨by simp, fun e he => by simp at he; omega, by simp [val], hd⟩
theorem DivInvB.step {x q : List Nat} {d j r y : Nat} (h : DivInvB x q d (j + 1) r) (hj : j < x.length) (hy : x[j] = y) (hy32 : y < 256) (hd : d < 256) :
    (r * 256 + y) / d < 256 ∧ DivInvB x (q.set j ((r * 256 + y) / d)) d j ((r * 256 + y) % d) := by
  have hr := h.rem
  have hjq : j < q.length := by rw [h.len]; exact hj
  have hlt : (r * 256 + y) / d < 256 := by
    rw [Nat.div_lt_iff_lt_mul (by omega)]
    have : (r + 1) * 256 ≤ d * 256 := Nat.mul_le_mul_right _ hr
    rw [Nat.mul_comm 256 d]
    omega
  refine ⟨hlt, by simp [h.len], fun e he => ?_, ?_, Nat.mod_lt _ (by omega)⟩
  · rcases List.mem_or_eq_of_mem_set he with he | rfl
    · exact h.lt e he
    · exact hlt
  · have e1 : (q.set j ((r * 256 + y) / d)).drop j = (r * 256 + y) / d :: q.drop (j + 1) := by
      rw [List.drop_eq_getElem_cons (by simpa using hjq), List.getElem_set_self, List.drop_set_of_lt (by omega)]
    have e2 : x.drop j = y :: x.drop (j + 1) := by rw [List.drop_eq_getElem_cons hj, hy]
    rw [e1, e2]
    simp only [val]
    have hv := h.val_
    have hdm := Nat.div_add_mod (r * 256 + y) d
    rw [← hv, Nat.add_mul, Nat.mul_assoc 256]
    generalize val 256 (q.drop (j + 1)) * d = T at *
    rw [Nat.mul_comm d] at hdm
    generalize (r * 256 + y) / d * d = U at *
    omega
theorem DivInvB.fin {x q : List Nat} {d n r : Nat} (h : DivInvB x q d 0 r) (hn : val 256 x = n) : trm q = lb (n / d) ∧ r = n % d := by
  have hv := h.val_
  rw [List.drop_zero, List.drop_zero, hn] at hv
  have hr := h.rem
  have e1 : n / d = val 256 q := by
    rw [← hv, Nat.add_comm, Nat.add_mul_div_right _ _ (by omega), Nat.div_eq_of_lt hr, Nat.zero_add]
  have e2 : n % d = r := by
    rw [← hv, Nat.add_comm, Nat.add_mul_mod_self_right, Nat.mod_eq_of_lt hr]
  exact ⟨by rw [e1, trm_lb h.lt], e2.symm⟩
end Go.Proofs.YtciolgmljpamlaaGreatDoor.M
/- The contract of number.trim: zeros at the end are dropped. -/
namespace Go.Proofs.YtciolgmljpamlaaGreatDoor
open Go Go.RowKit
set_option maxRecDepth 100000
def wc (x : Nat) (_ : Nat) : Value := .int .u32 (x : Int)
def bc (x : Nat) (_ : Nat) : Value := .int .u8 (x : Int)
theorem Sl.one_at {α : Type} {cell : α → Nat → Value} {w : World} {B : Nat} {A : Option Addr} {xs : List α} {k : Nat} (h : Sl 1 cell w B A xs) (hk : k < xs.length) : ∃ ad, A = some ad ∧ (ad.add k).block < B ∧ w.cell? (ad.add k) = some (cell xs[k] 0) := by
  obtain ⟨ad, e, hb, hc⟩ := h k hk
  exact ⟨ad, e, by rw [add_block]; exact hb, by simpa using hc 0 (by omega)⟩
theorem Sl.take {α : Type} {size : Nat} {cell : α → Nat → Value} {w : World} {B : Nat} {A : Option Addr} {xs : List α} (h : Sl size cell w B A xs) (k : Nat) : Sl size cell w B A (xs.take k) := by
  intro i hi
  have hi' : i < xs.length := by simp at hi; omega
  obtain ⟨ad, e, hb, hc⟩ := h i hi'
  exact ⟨ad, e, hb, fun j hj => by rw [hc j hj, List.getElem_take]⟩
def TrimPost (w : World) (A : Option Addr) (c : Nat) (l : List Nat) (e : Ending) (w' : World) : Prop := e = .returned (.slice A (M.trm l).length c) ∧ M.trm l = l.take (M.trm l).length ∧ w = w'
theorem M.trm_at {l : List Nat} {k : Nat} (hk : k < l.length) (h : M.trm (l.take (k + 1)) = M.trm l) (h0 : l[k] = 0) : M.trm (l.take k) = M.trm l := by
  rw [← h, List.take_succ_eq_append_getElem hk, h0, M.trm_snoc_zero]
theorem M.trm_stop {l : List Nat} {k : Nat} (hk : k < l.length) (h : M.trm (l.take (k + 1)) = M.trm l) (h0 : l[k] ≠ 0) : M.trm l = l.take (k + 1) := by
  rw [← h, List.take_succ_eq_append_getElem hk, M.trm_snoc_pos _ h0]
set_option maxHeartbeats 1000000 in
theorem trim_any (A : Option Addr) (c B : Nat) (l : List Nat) (w : World) (ha : Sl 1 wc w B A l) (hc : l.length ≤ c) (hm : c ≤ 9223372036854775807) :
    Calls Tryz.prog 217 #[.slice A l.length c] w (TrimPost w A c l) := by
  go_enter Tryz.func217, Tryz.ntmps217
  go_wp2_with fail
  go_loop [0] (fun x => ∃ k : Nat, k ≤ l.length ∧ x = .slice A k c ∧ Hid (M.trm (l.take k) = M.trm l)) (fun x => match x with | .slice _ k _ => k | _ => 0)
  case atStart => exact ⟨l.length, Nat.le_refl _, rfl, Lib.hid (by rw [List.take_length])⟩
  case round =>
    obtain ⟨k, hk, rfl, HT⟩ := hrel
    cases k with
    | zero =>
      have HE : Hid (M.trm l = []) := Lib.hid (by rw [← HT.out]; rfl)
      go_wp2_with fail
      go_ret
      exact ⟨by rw [HE.out]; rfl, by rw [HE.out]; rfl, rfl⟩
    | succ k =>
      obtain ⟨ad, rfl, _, d⟩ := ha.one_at (k := k) (by omega)
      simp only [wc] at d
      by_cases h0 : l[k] = 0
      · have HN := Lib.hid (M.trm_at (by omega) HT.out h0)
        rw [h0] at d
        clear h0
        go_wp2_with fail
        go_round
        case rel => exact ⟨k, by omega, rfl, HN⟩
        case measure => simp
      · have HE := Lib.hid (M.trm_stop (by omega) HT.out h0)
        have hb : (((l[k] : Nat) : Int) == 0) = false := by simp; exact h0
        clear h0
        go_wp2_with fail
        go_ret
        have hlen : (M.trm l).length = k + 1 := by rw [HE.out]; simp; omega
        exact ⟨by rw [hlen]; rfl, by rw [hlen]; exact HE.out, rfl⟩
end Go.Proofs.YtciolgmljpamlaaGreatDoor
/- The contract of the reference's Trim. -/
namespace Go.Proofs.YtciolgmljpamlaaGreatDoor
open Go Go.RowKit
set_option maxRecDepth 100000
def TrimPostB (w : World) (A : Option Addr) (c : Nat) (l : List Nat) (e : Ending) (w' : World) : Prop := e = .returned (.slice A (M.trm l).length c) ∧ M.trm l = l.take (M.trm l).length ∧ w = w'
set_option maxHeartbeats 1000000 in
theorem refTrim_any (A : Option Addr) (c B : Nat) (l : List Nat) (w : World) (ha : Sl 1 bc w B A l) (hc : l.length ≤ c) (hm : c ≤ 9223372036854775807) :
    Calls Tryz.prog 232 #[.slice A l.length c] w (TrimPostB w A c l) := by
  go_enter Tryz.func232, Tryz.ntmps232
  go_wp2_with fail
  go_loop [0] (fun x => ∃ k : Nat, k ≤ l.length ∧ x = .slice A k c ∧ Hid (M.trm (l.take k) = M.trm l)) (fun x => match x with | .slice _ k _ => k | _ => 0)
  case atStart => exact ⟨l.length, Nat.le_refl _, rfl, Lib.hid (by rw [List.take_length])⟩
  case round =>
    obtain ⟨k, hk, rfl, HT⟩ := hrel
    cases k with
    | zero =>
      have HE : Hid (M.trm l = []) := Lib.hid (by rw [← HT.out]; rfl)
      go_wp2_with fail
      go_ret
      exact ⟨by rw [HE.out]; rfl, by rw [HE.out]; rfl, rfl⟩
    | succ k =>
      obtain ⟨ad, rfl, _, d⟩ := ha.one_at (k := k) (by omega)
      simp only [bc] at d
      by_cases h0 : l[k] = 0
      · have HN := Lib.hid (M.trm_at (by omega) HT.out h0)
        rw [h0] at d
        clear h0
        go_wp2_with fail
        go_round
        case rel => exact ⟨k, by omega, rfl, HN⟩
        case measure => simp
      · have HE := Lib.hid (M.trm_stop (by omega) HT.out h0)
        have hb : (((l[k] : Nat) : Int) == 0) = false := by simp; exact h0
        clear h0
        go_wp2_with fail
        go_ret
        have hlen : (M.trm l).length = k + 1 := by rw [HE.out]; simp; omega
        exact ⟨by rw [hlen]; rfl, by rw [hlen]; exact HE.out, rfl⟩
end Go.Proofs.YtciolgmljpamlaaGreatDoor
/- The contract of number.natOf. -/
namespace Go.Proofs.YtciolgmljpamlaaGreatDoor
open Go Go.RowKit
set_option maxRecDepth 100000
def RetN (w : World) (n : Nat) (e : Ending) (w' : World) : Prop := ∃ A c, e = .returned (.slice A (M.wds n).length c) ∧ (M.wds n).length ≤ c ∧ c ≤ 1000 ∧ Sl 1 wc w' w'.heap.size A (M.wds n) ∧ Below w.heap.size w w'
theorem u32Info : (Tryz.prog.info? 181).map (fun i => (i.zero, i.size, i.bytes)) = some (some (.int .u32 0), 1, 4) := by kernel_rfl
theorem or_shl {x y m : Nat} (hm : m < 4) (hx : x < 256 ^ m) (hy : y < 256) : bits BinOp.or IntKind.u32 (x : Int) ((y : Int) * 2 ^ (8 * m) % 4294967296) = ((x + y * 256 ^ m : Nat) : Int) := by
  have e : (256 : Nat) ^ m = 2 ^ (8 * m) := by rw [Nat.pow_mul]
  rw [e] at hx
  have hp : y * 2 ^ (8 * m) < 4294967296 := by
    have h1 : (2 : Nat) ^ (8 * m) ≤ 2 ^ 24 := Nat.pow_le_pow_right (by decide) (by omega)
    have h2 : y * 2 ^ (8 * m) ≤ 255 * 2 ^ 24 := Nat.mul_le_mul (by omega) h1
    omega
  have hx32 : x < 4294967296 := by
    have h1 : (2 : Nat) ^ (8 * m) ≤ 2 ^ 24 := Nat.pow_le_pow_right (by decide) (by omega)
    omega
  have e2 : (y : Int) * 2 ^ (8 * m) % 4294967296 = ((y * 2 ^ (8 * m) : Nat) : Int) := by
    rw [Int.natCast_mul, Int.natCast_pow]
    apply Int.emod_eq_of_lt
    · have : (0 : Int) ≤ ((y * 2 ^ (8 * m) : Nat) : Int) := Int.natCast_nonneg _
      simpa using this
    · have : ((y * 2 ^ (8 * m) : Nat) : Int) < ((4294967296 : Nat) : Int) := by exact_mod_cast hp
      simpa using this
  rw [e2, u32_or_nat _ _ hx32 hp, Nat.or_comm, nat_join (8 * m) _ _ (by simp) hx, Nat.add_comm, e]
set_option maxHeartbeats 1000000 in
theorem natOf_any (A : Option Addr) (c : Nat) (ds : List Nat) (w : World) (ha : Sl 1 bc w w.heap.size A ds) (hd : ∀ d ∈ ds, d < 256) (hl : ds.length ≤ 64) :
    Calls Tryz.prog 213 #[.slice A ds.length c] w (RetN w (M.val 256 ds.reverse)) := by
  obtain ⟨i0, hi, hz0, hz1, hz2⟩ := info_parts u32Info
  have Hi := Lib.hid hi; have Hz0 := Lib.hid hz0; have Hz1 := Lib.hid hz1; have Hz2 := Lib.hid hz2
  clear hi hz0 hz1 hz2
  go_enter Tryz.func213, Tryz.ntmps213
  go_wp2_with (at_make; refine wpList_make_full _ rfl _ _ 237 rfl w.heap.size 181 i0 _ 1 Tryz.underlying237 Hi.out Hz0.out Hz1.out .i64 .i64 _ _ ((ds.length + 3) / 4) rfl rfl (by omega) (by omega) (by rw [Hz2.out]; omega) (by unfold maxLen; omega) (Nat.le_refl _) ?_; intro w2 hown hg)
  have em := made_flat (cell := wc) (size := 1) (x0 := 0) (by decide) (Value.int .u32 0).cells rfl ((ds.length + 3) / 4)
  rw [em] at hown
  clear em
  have hB : Below w.heap.size w w2 := (Below.refl _ _).grown hg (Nat.le_refl _) (by simp)
  clear hg
  go_loopw [13] (fun i wr => ∃ (k : Nat) (X : List Nat), k ≤ ds.length ∧ i = .int .i64 k ∧ Below w.heap.size w wr ∧ wr.ownsRow w.heap.size 181 1 (.slice (some ⟨w.heap.size, 0, none⟩) ((ds.length + 3) / 4) ((ds.length + 3) / 4)) ((ds.length + 3) / 4) (flat 1 wc X) ∧ Hid (M.NatInv ds.reverse X ((ds.length + 3) / 4) k)) (fun i _ => ds.length - (intOf i).toNat)
  case atStart => exact ⟨0, List.replicate ((ds.length + 3) / 4) 0, Nat.zero_le _, rfl, hB, hown, Lib.hid (M.NatInv.start _ _)⟩
  case round =>
    obtain ⟨k, X, hk, rfl, hB, hown, HI⟩ := hrel
    by_cases hlt : k < ds.length
    · obtain ⟨ad, rfl, _, d⟩ := ha.one_at (k := ds.length - 1 - k) (by omega)
      rw [← hB.cell (by assumption)] at d
      have hXl := HI.out.len
      have hq : k / 4 < X.length := by omega
      obtain ⟨f1, f2⟩ := own_at hown hq (j := 0) (by decide)
      simp only [wc, bc, Nat.mul_one, Nat.add_zero] at f1 f2 d
      obtain ⟨x, hx⟩ : ∃ x, X[k / 4] = x := ⟨_, rfl⟩
      obtain ⟨y, hy⟩ : ∃ y, ds[ds.length - 1 - k] = y := ⟨_, rfl⟩
      rw [hx] at f1
      rw [hy] at d
      have hy8 : y < 256 := by rw [← hy]; exact hd _ (List.getElem_mem _)
      have hx32 : x < 4294967296 := by rw [← hx]; exact HI.out.lt _ (List.getElem_mem _)
      have hxm : x < 256 ^ (k % 4) := by rw [← hx]; exact HI.out.at_ hq
      have HO := Lib.hid (or_shl (Nat.mod_lt k (by decide : 0 < 4)) hxm hy8)
      have HS := Lib.hid (HI.out.step (y := y) (x := x) (by simpa using hlt) (by rw [List.getElem_reverse]; exact hy) hy8 hq hx)
      have HW := Lib.hid (own_set hown hq (j := 0) (y := x + y * 256 ^ (k % 4)) (u := .int .u32 ((x + y * 256 ^ (k % 4) : Nat) : Int)) (by decide) rfl (fun j' h1 h2 => absurd h1 (by omega)))
      clear hXl hxm hx hy
      go_wp2_with fail
      go_region
      go_wp2_with fail
      go_roundw
      case rel =>
        rw [HO.out]
        refine ⟨k + 1, _, hlt, by go_num, (hB.setCell (p := ⟨w.heap.size, _, none⟩) (Nat.le_refl _) _).drew, ?_, HS⟩
        have := HW.out
        rw [Nat.mul_one] at this
        exact this
      case measure => simp [intOf]; omega
    · have hkl : k = ds.length := by omega
      have HF := Lib.hid (show M.trm X = M.wds (M.val 256 ds.reverse) by
        have h := HI.out
        have e : k = ds.reverse.length := by simp; exact hkl
        rw [e] at h
        exact h.fin)
      have hXl := HI.out.len
      have hlt2 := HI.out.lt
      have HL := Lib.hid hXl
      clear hkl hXl
      obtain ⟨A2, c2, hv, hS⟩ := own_slice (by decide) hown
      obtain ⟨rfl, hxx, rfl⟩ : some ⟨w.heap.size, 0, none⟩ = A2 ∧ (ds.length + 3) / 4 = X.length ∧ (ds.length + 3) / 4 = c2 := by
        injection hv with h1 h2 h3; exact ⟨h1, h2, h3⟩
      clear hxx hv
      go_wp2_with fail
      have ht := trim_any (some ⟨w.heap.size, 0, none⟩) ((ds.length + 3) / 4) _ X wr hS (by rw [HL.out]; exact Nat.le_refl _) (by omega)
      rw [HL.out] at ht
      refine ht.mono ?_
      rintro e w3 ⟨rfl, h2, rfl⟩
      rw [HF.out] at h2 ⊢
      have hlen : (M.wds (M.val 256 ds.reverse)).length ≤ X.length := by
        rw [h2]; simp; omega
      have H2 := Lib.hid h2
      clear h2 ht
      go_wp2_with fail
      go_ret
      exact ⟨_, _, rfl, by have := HL.out; omega, by omega, by rw [H2.out]; exact hS.take _, hB⟩
end Go.Proofs.YtciolgmljpamlaaGreatDoor
/- The contract of bits.Len32, laid from the kit's shelf at this seat's numbers. -/
namespace Go.Proofs.YtciolgmljpamlaaGreatDoor
open Go Go.Shelf
set_option maxRecDepth 100000
def lays128_ren : Go.Shelf.Ren := ⟨fun | 128 => 145 | n => n, fun | 51 => 181 | 3 => 3 | 4 => 4 | 46 => 153 | 5 => 5 | 9 => 9 | n => n, fun | n => n⟩
theorem lays128 : Go.Proofs.Lays.n128 Tryz.prog lays128_ren := {
  mixed := by kernel_rfl
  f128 := Tryz.func145.trans (congrArg some (by kernel_rfl))
  t3 := Tryz.underlying3
  a3 := Tryz.isAgg3
  z3 := Tryz.sizeOf3
  v3 := Tryz.zeroValue3
  t4 := Tryz.underlying4
  a4 := Tryz.isAgg4
  z4 := Tryz.sizeOf4
  v4 := Tryz.zeroValue4
  t5 := Tryz.underlying5
  a5 := Tryz.isAgg5
  z5 := Tryz.sizeOf5
  v5 := Tryz.zeroValue5
  t9 := Tryz.underlying9
  a9 := Tryz.isAgg9
  z9 := Tryz.sizeOf9
  v9 := Tryz.zeroValue9
  t46 := Tryz.underlying153
  a46 := Tryz.isAgg153
  z46 := Tryz.sizeOf153
  v46 := Tryz.zeroValue153
  t51 := Tryz.underlying181
  a51 := Tryz.isAgg181
  z51 := Tryz.sizeOf181
  v51 := Tryz.zeroValue181 }
theorem bits_Len32 (x : Int) (w : World) (h0 : 0 ≤ x) (h1 : x ≤ 4294967295) :
    Calls Tryz.prog 145 #[.int .u32 x] w fun e w' => e = .returned (.int .i64 (Lib.bitLen x.toNat)) ∧ w' = w := Any.bits_Len32 lays128 x w h0 h1
end Go.Proofs.YtciolgmljpamlaaGreatDoor
/- The contracts of bits.Len32 and of nat.size. -/
namespace Go.Proofs.YtciolgmljpamlaaGreatDoor
open Go Go.RowKit
set_option maxRecDepth 100000
def M.bl (n : Nat) : Nat := if n = 0 then 0 else Nat.log2 n + 1
theorem M.bl_le {n k : Nat} : M.bl n ≤ k ↔ n < 2 ^ k := by
  unfold M.bl
  split
  · rename_i h; subst h; simp [Nat.pow_pos]
  · rename_i h; rw [Nat.succ_le_iff, Nat.log2_lt h]
theorem M.bl_eq {n k : Nat} (h : 2 ^ k ≤ n) (h2 : n < 2 ^ (k + 1)) : M.bl n = k + 1 := by
  have h1 := (M.bl_le (n := n) (k := k + 1)).2 h2
  have h3 : ¬ M.bl n ≤ k := fun h' => by have := M.bl_le.1 h'; omega
  omega
theorem M.bl_shift {n k : Nat} (h : 2 ^ k ≤ n) : M.bl n = k + M.bl (n / 2 ^ k) := by
  have hp : 0 < 2 ^ k := Nat.pow_pos (by decide)
  have hq : 0 < n / 2 ^ k := Nat.div_pos h hp
  obtain ⟨j, hj⟩ : ∃ j, M.bl (n / 2 ^ k) = j + 1 := by
    refine ⟨M.bl (n / 2 ^ k) - 1, ?_⟩
    have : M.bl (n / 2 ^ k) ≠ 0 := by unfold M.bl; rw [if_neg (by omega)]; omega
    omega
  have h1 : n / 2 ^ k < 2 ^ (j + 1) := M.bl_le.1 (by omega)
  have h2 : 2 ^ j ≤ n / 2 ^ k := by
    apply Nat.le_of_not_lt; intro h'
    have := M.bl_le.2 h'
    omega
  rw [hj]
  have e1 : 2 ^ (k + j) ≤ n := by
    rw [Nat.pow_add, Nat.mul_comm]
    exact (Nat.le_div_iff_mul_le hp).1 h2
  have e2 : n < 2 ^ (k + j + 1) := by
    rw [Nat.add_assoc, Nat.pow_add, Nat.mul_comm]
    exact (Nat.div_lt_iff_lt_mul hp).1 h1
  exact M.bl_eq e1 e2
theorem M.bl_half {n : Nat} (h : n ≠ 0) : M.bl n = 1 + M.bl (n / 2) := by
  by_cases h2 : 2 ≤ n
  · have := M.bl_shift (n := n) (k := 1) (by simpa using h2)
    simpa using this
  · obtain rfl : n = 1 := by omega
    decide +kernel
theorem M.bl_aux : ∀ (f x : Nat), x < 2 ^ f → Lib.bitLenAux f x = M.bl x
  | 0, x, h => by
    obtain rfl : x = 0 := by simpa using h
    rfl
  | f + 1, x, h => by
    simp only [Lib.bitLenAux]
    split
    · rename_i h0; subst h0; rfl
    · rename_i h0
      rw [M.bl_half h0, M.bl_aux f (x / 2) (by rw [Nat.pow_succ] at h; omega)]
theorem len32_any (x : Nat) (w : World) (hx : x < 4294967296) :
    Calls Tryz.prog 145 #[.int .u32 (x : Int)] w fun e w' => e = .returned (.int .i64 (M.bl x : Nat)) ∧ w = w' :=
  (bits_Len32 (x : Int) w (by omega) (by omega)).mono fun e w' ⟨h1, h2⟩ => ⟨by
    rw [h1, Int.toNat_natCast]
    have : Lib.bitLen x = M.bl x := M.bl_aux 64 x (by have : (4294967296 : Nat) < 2 ^ 64 := by decide
                                                      omega)
    rw [this], h2.symm⟩
theorem M.size_wds {l : List Nat} {d : Nat} (hl : ∀ x ∈ l, x < 4294967296) (hd : d < 4294967296) (h0 : d ≠ 0) : M.bl (M.val 4294967296 (l ++ [d])) = 32 * l.length + M.bl d := by
  have h1 := M.val_lt (b := 4294967296) (by decide) hl
  have e : (4294967296 : Nat) ^ l.length = 2 ^ (32 * l.length) := by rw [Nat.pow_mul]
  rw [M.val_append]
  simp only [M.val, Nat.mul_zero, Nat.add_zero]
  rw [e] at h1 ⊢
  have hp : 0 < 2 ^ (32 * l.length) := Nat.pow_pos (by decide)
  have hge : 2 ^ (32 * l.length) ≤ M.val 4294967296 l + 2 ^ (32 * l.length) * d := by
    have : 2 ^ (32 * l.length) * 1 ≤ 2 ^ (32 * l.length) * d := Nat.mul_le_mul_left _ (by omega)
    omega
  rw [M.bl_shift hge, Nat.add_mul_div_left _ _ hp, Nat.div_eq_of_lt h1, Nat.zero_add]
set_option maxHeartbeats 1000000 in
theorem size_any (A : Option Addr) (c B : Nat) (n : Nat) (w : World) (ha : Sl 1 wc w B A (M.wds n)) (hc : (M.wds n).length ≤ 1000) :
    Calls Tryz.prog 215 #[.slice A (M.wds n).length c] w fun e w' => e = .returned (.int .i64 (M.bl n : Nat)) ∧ w = w' := by
  have hlt := M.wds_lt n
  have hv := M.wds_val n
  have hcan := M.wds_canon n
  generalize M.wds n = l at *
  have HV := Lib.hid hv
  clear hv
  cases hl : l.length with
  | zero =>
    have hl0 : l = [] := List.eq_nil_of_length_eq_zero hl
    have HE : Hid (M.bl n = 0) := Lib.hid (by rw [← HV.out, hl0]; rfl)
    clear hl hl0 hlt hcan hc ha HV
    go_enter Tryz.func215, Tryz.ntmps215
    go_wp2_with fail
    go_ret
    exact ⟨ret_int (by rw [HE.out]; rfl), rfl⟩
  | succ k =>
    have hk : k < l.length := by omega
    obtain ⟨ad, rfl, _, d⟩ := ha.one_at hk
    have e : l = l.take k ++ [l[k]] := by
      rw [← List.take_succ_eq_append_getElem hk, List.take_of_length_le (by omega)]
    have h0 : l[k] ≠ 0 := by
      have := hcan (by intro h; rw [h] at hk; simp at hk)
      rw [List.getLast_eq_getElem] at this
      simpa [hl] using this
    have hx := hlt l[k] (List.getElem_mem _)
    have HE : Hid (M.bl n = 32 * k + M.bl l[k]) := Lib.hid (by
      rw [← HV.out]
      conv => lhs; rw [e]
      rw [M.size_wds (fun x hx => hlt x (List.mem_of_mem_take hx)) hx h0]
      simp; omega)
    simp only [wc] at d
    generalize l[k] = x at *
    have hbl : M.bl x ≤ 32 := M.bl_le.2 (by simpa using hx)
    clear e h0 hcan hlt HV
    have HL := Lib.hid hl
    clear hl ha
    go_enter Tryz.func215, Tryz.ntmps215
    go_wp2_with fail
    refine (len32_any x _ hx).mono ?_
    rintro e w1 ⟨rfl, rfl⟩
    go_wp2_with fail
    go_ret
    exact ⟨ret_int (by rw [HE.out]; omega), rfl⟩
end Go.Proofs.YtciolgmljpamlaaGreatDoor
/- The contract of nat.digits: the base 256 digits of a number, the highest first. -/
namespace Go.Proofs.YtciolgmljpamlaaGreatDoor
open Go Go.RowKit
set_option maxRecDepth 100000
theorem u8Info : (Tryz.prog.info? 5).map (fun i => (i.zero, i.size, i.bytes)) = some (some (.int .u8 0), 1, 1) := by kernel_rfl
theorem M.byt_bl (n : Nat) : (M.byt n).length = (M.bl n + 7) / 8 := by
  have key : ∀ k, (M.byt n).length ≤ k ↔ (M.bl n + 7) / 8 ≤ k := by
    intro k
    rw [M.byt_len, show (256 : Nat) ^ k = 2 ^ (8 * k) by rw [Nat.pow_mul], ← M.bl_le]
    omega
  have h1 := (key _).1 (Nat.le_refl _)
  have h2 := (key _).2 (Nat.le_refl _)
  omega
theorem M.bl_wds {n k : Nat} (h : (M.wds n).length ≤ k) : M.bl n ≤ 32 * k := by
  rw [M.bl_le, Nat.pow_mul]
  exact M.wds_len.1 h
def RetD (w : World) (n : Nat) (e : Ending) (w' : World) : Prop := ∃ A c, e = .returned (.slice A (M.byt n).length c) ∧ (M.byt n).length ≤ c ∧ c ≤ 1000 ∧ (∀ ad, A = some ad → w.heap.size ≤ ad.block) ∧ Sl 1 bc w' w'.heap.size A (M.byt n) ∧ Below w.heap.size w w'
theorem Sl.setFar {α : Type} {size : Nat} {cell : α → Nat → Value} {w : World} {B : Nat} {A : Option Addr} {xs : List α} (h : Sl size cell w B A xs) {p : Addr} (hne : ∀ ad, A = some ad → ad.block ≠ p.block) (u : Value) : Sl size cell (w.setCell p u) B A xs := by
  intro k hk
  obtain ⟨ad, e, hb, hc⟩ := h k hk
  refine ⟨ad, e, hb, fun j hj => ?_⟩
  rw [World.cell?_setCell_other w p _ u (fun he => hne ad e (by have := congrArg Addr.block he; rw [add_block] at this; first | exact this | exact this.symm))]
  exact hc j hj
theorem byte_cast (x r : Nat) : (x : Int) / 2 ^ (8 * r) % 256 = ((x / 256 ^ r % 256 : Nat) : Int) := by
  rw [Int.natCast_emod, Int.natCast_ediv, Int.natCast_pow, Int.pow_mul]
  rfl
theorem drop_set {α : Type} {D : List α} {z : α} {m i : Nat} (hm : D.length = m) (hi : i < m) : (List.replicate (m - i) z ++ D.drop (m - i)).set (m - 1 - i) (D[m - 1 - i]'(by omega)) = List.replicate (m - (i + 1)) z ++ D.drop (m - (i + 1)) := by
  have e1 : List.replicate (m - i) z = List.replicate (m - (i + 1)) z ++ [z] := by
    rw [show m - i = m - (i + 1) + 1 by omega, List.replicate_succ']
  have e2 : D.drop (m - (i + 1)) = D[m - 1 - i]'(by omega) :: D.drop (m - i) := by
    rw [List.drop_eq_getElem_cons (by omega), show m - (i + 1) + 1 = m - i by omega]
    have : m - (i + 1) = m - 1 - i := by omega
    simp only [this]
  rw [e1, e2, List.append_assoc, List.set_append_right _ _ (by simp; omega)]
  congr 1
  simp only [List.length_replicate, List.singleton_append]
  rw [show m - 1 - i - (m - (i + 1)) = 0 by omega]
  rfl
set_option maxHeartbeats 1000000 in
theorem digits_any (A : Option Addr) (c : Nat) (n : Nat) (w : World) (ha : Sl 1 wc w w.heap.size A (M.wds n)) (hc : (M.wds n).length ≤ 100) :
    Calls Tryz.prog 226 #[.slice A (M.wds n).length c] w (RetD w n) := by
  have hm := M.byt_bl n
  have hbl : M.bl n ≤ 32 * 100 := M.bl_wds hc
  obtain ⟨m, hmm⟩ : ∃ m, (M.bl n + 7) / 8 = m := ⟨_, rfl⟩
  have HM := Lib.hid (hm.trans hmm)
  have hmm' : m ≤ 400 := by omega
  clear hm
  by_cases h0 : m = 0
  · have HN : Hid (M.byt n = []) := Lib.hid (List.eq_nil_of_length_eq_zero (by rw [HM.out]; exact h0))
    have hb0 : M.bl n = 0 := by omega
    have HB := Lib.hid hb0
    clear hmm h0 hb0
    go_enter Tryz.func226, Tryz.ntmps226
    go_wp2_with fail
    refine (size_any A c _ n _ ha (by omega)).mono ?_
    rintro e w1 ⟨rfl, rfl⟩
    rw [HB.out]
    go_wp2_with fail
    go_ret
    exact ⟨none, 0, by rw [HN.out]; rfl, by rw [HN.out]; simp, by omega, (fun ad h => by cases h), by rw [HN.out]; exact Sl.nil_, Below.refl _ _⟩
  · obtain ⟨i0, hi, hz0, hz1, hz2⟩ := info_parts u8Info
    have Hi := Lib.hid hi; have Hz0 := Lib.hid hz0; have Hz1 := Lib.hid hz1; have Hz2 := Lib.hid hz2
    clear hi hz0 hz1 hz2
    have hm0 : 0 < m := by omega
    have hb0 : ((m : Int) == 0) = false := by simp; omega
    have hq : ((M.bl n : Nat) : Int) + 7 = (M.bl n : Int) + 7 := rfl
    have HQ : Hid (((M.bl n : Nat) : Int) + 7 ≤ 3300 ∧ (((M.bl n : Nat) : Int) + 7) / 8 = (m : Int)) := Lib.hid (by omega)
    clear hmm h0 hq
    go_enter Tryz.func226, Tryz.ntmps226
    go_wp2_with fail
    refine (size_any A c _ n _ ha (by omega)).mono ?_
    rintro e w1 ⟨rfl, rfl⟩
    have hq2 := HQ.out.2
    generalize M.bl n = b at *
    go_wp2_with (at_make; refine wpList_make_full _ rfl _ _ 218 rfl w.heap.size 5 i0 _ 1 Tryz.underlying218 Hi.out Hz0.out Hz1.out .i64 .i64 _ _ m rfl rfl (by omega) (by omega) (by rw [Hz2.out]; omega) (by unfold maxLen; omega) (Nat.le_refl _) ?_; intro w2 hown hg)
    have em := made_flat (cell := bc) (size := 1) (x0 := 0) (by decide) (Value.int .u8 0).cells rfl m
    rw [em] at hown
    clear em hq2 HQ
    have hB : Below w.heap.size w w2 := (Below.refl _ _).grown hg (Nat.le_refl _) (by simp)
    clear hg
    go_loopw [16] (fun i wr => ∃ k : Nat, k ≤ m ∧ i = .int .i64 k ∧ Below w.heap.size w wr ∧ wr.ownsRow w.heap.size 5 1 (.slice (some ⟨w.heap.size, 0, none⟩) m m) m (flat 1 bc (List.replicate (m - k) 0 ++ (M.byt n).drop (m - k)))) (fun i _ => m - (intOf i).toNat)
    case atStart => exact ⟨0, Nat.zero_le _, rfl, hB, by rw [Nat.sub_zero, List.drop_of_length_le (by rw [HM.out]; exact Nat.le_refl _), List.append_nil]; exact hown⟩
    case round =>
      clear hown hB
      obtain ⟨k, hk, rfl, hB, hown⟩ := hrel
      by_cases hlt : k < m
      · have hkb : k < (M.byt n).length := by rw [HM.out]; exact hlt
        obtain ⟨hq, hbyte⟩ := M.byte_of hkb
        have hat := M.byt_at hkb
        obtain ⟨ad, rfl, hab, d⟩ := ha.one_at hq
        rw [← hB.cell hab] at d
        simp only [wc] at d
        have hx32 := M.wds_lt n _ (List.getElem_mem hq)
        obtain ⟨x, hx⟩ : ∃ x, (M.wds n)[k / 4] = x := ⟨_, rfl⟩
        rw [hx] at d hbyte hx32
        have hpos : m - 1 - k < (List.replicate (m - k) 0 ++ (M.byt n).drop (m - k)).length := by
          have hlen : (List.replicate (m - k) 0 ++ (M.byt n).drop (m - k)).length = m := by simp [HM.out]
          omega
        obtain ⟨f1, f2⟩ := own_at hown hpos (j := 0) (by decide)
        have HS := Lib.hid (own_set hown hpos (j := 0) (y := (M.byt n)[m - 1 - k]'(by rw [HM.out]; omega)) (u := .int .u8 (((M.byt n)[m - 1 - k]'(by rw [HM.out]; omega) : Nat) : Int)) (by decide) rfl (fun j' h1 h2 => absurd h1 (by omega)))
        have HD := Lib.hid (drop_set (z := 0) HM.out hlt)
        have HY : Hid ((M.byt n)[m - 1 - k]'(by rw [HM.out]; omega) = x / 256 ^ (k % 4) % 256) := Lib.hid (by
          rw [hbyte, ← hat]
          simp only [HM.out])
        obtain ⟨u, hu⟩ : ∃ u, bc ((List.replicate (m - k) 0 ++ (M.byt n).drop (m - k))[m - 1 - k]) 0 = u := ⟨_, rfl⟩
        rw [hu] at f1
        simp only [Nat.mul_one, Nat.add_zero] at f1 f2
        clear hbyte hat hx hu
        go_wp2_with fail
        go_roundw
        case rel =>
          rw [byte_cast]
          refine ⟨k + 1, hlt, by go_num, hB.setCell (p := ⟨w.heap.size, _, none⟩) (Nat.le_refl _) _, ?_⟩
          have := HS.out
          rw [HD.out] at this
          simp only [HY.out, Nat.mul_one, Nat.add_zero] at this
          exact this
        case measure => simp [intOf]; omega
      · have hkm : k = m := by omega
        have o2 : wr.ownsRow w.heap.size 5 1 (.slice (some ⟨w.heap.size, 0, none⟩) m m) m (flat 1 bc (M.byt n)) := by
          have := hown
          rw [hkm, Nat.sub_self] at this
          exact this
        clear hkm hown
        obtain ⟨A2, c2, hv, hS⟩ := own_slice (by decide) o2
        obtain ⟨rfl, rfl⟩ : some ⟨w.heap.size, 0, none⟩ = A2 ∧ m = c2 := by
          injection hv with h1 h2 h3; exact ⟨h1, h3⟩
        clear hv
        go_wp2_with fail
        go_ret
        exact ⟨_, _, by rw [HM.out]; rfl, by rw [HM.out]; exact Nat.le_refl _, by omega, (fun ad h => by cases h; exact Nat.le_refl _), hS, hB⟩
end Go.Proofs.YtciolgmljpamlaaGreatDoor
end
