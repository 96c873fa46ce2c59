/- Plain arithmetic of layer 1's reference: natural numbers as bytes, the lowest first. No program in sight. -/
import Derived.Test.YtpbcbomlhcbfjaaNat
namespace Go.Proofs.Ytpbcbomlhcbfjaa.M

/-- The bytes of a number, the lowest first, without zeros at the end. -/
def lb (n : Nat) : List Nat := dig 256 n n
theorem lb_val (n : Nat) : val 256 (lb n) = n := dig_val (by decide) n n (Nat.le_refl _)
theorem lb_lt (n : Nat) : ∀ d ∈ lb n, d < 256 := dig_lt (by decide) n n
theorem lb_canon (n : Nat) : Canon (lb n) := dig_canon (by decide) n n (Nat.le_refl _)
theorem lb_eq {l : List Nat} {n : Nat} (h : ∀ d ∈ l, d < 256) (c : Canon l) (hv : val 256 l = n) : l = lb n :=
  canon_uniq (by decide) _ _ h (lb_lt n) c (lb_canon n) (hv.trans (lb_val n).symm)
theorem lb_byt (n : Nat) : (byt n).reverse = lb n := byt_rev n
theorem lb_len {n k : Nat} : (lb n).length ≤ k ↔ n < 256 ^ k := dig_len (by decide) n n k (Nat.le_refl _)
theorem lb_at {n i : Nat} (h : i < (lb n).length) : (lb n)[i] = n / 256 ^ i % 256 := dig_at (by decide) n n i h

theorem trm_lb {l : List Nat} (h : ∀ d ∈ l, d < 256) : trm l = lb (val 256 l) :=
  lb_eq (fun d hd => h d (trm_mem d hd)) (trm_canon l) (trm_val _ l)

/-- mulNat's row before the i-th word of the first factor. -/
structure MulOutB (xs ys out : List Nat) (i : Nat) : Prop where
  len : out.length = xs.length + ys.length
  lt : ∀ d ∈ out, d < 256
  val_ : val 256 out = val 256 (xs.take i) * val 256 ys
  zero : ∀ q (h : q < out.length), i + ys.length ≤ q → out[q] = 0
/-- .. and inside, before the j-th word of the second, with a carry. -/
structure MulInB (xs ys out : List Nat) (i j c a : Nat) : Prop where
  len : out.length = xs.length + ys.length
  lt : ∀ d ∈ out, d < 256
  car : c < 256
  val_ : val 256 out + c * 256 ^ (i + j) = val 256 (xs.take i) * val 256 ys + a * val 256 (ys.take j) * 256 ^ i
  zero : ∀ q (h : q < out.length), i + ys.length ≤ q → out[q] = 0

theorem MulOutB.start (xs ys : List Nat) : MulOutB xs ys (List.replicate (xs.length + ys.length) 0) 0 :=
  ⟨by simp, fun d hd => by simp at hd; omega, by simp [val, val_zeros], fun q h _ => by simp⟩
theorem MulOutB.in_ {xs ys out : List Nat} {i : Nat} (h : MulOutB xs ys out i) (a : Nat) : MulInB xs ys out i 0 0 a :=
  ⟨h.len, h.lt, by decide, by simp [val, h.val_], h.zero⟩
theorem carry_bdB {a y o c : Nat} (ha : a < 256) (hy : y < 256) (ho : o < 256) (hc : c < 256) : a * y + o + c < 65536 := by
  have : a * y ≤ 255 * 255 := Nat.mul_le_mul (by omega) (by omega)
  omega
theorem MulInB.step {xs ys out : List Nat} {i j c a y o : Nat} (h : MulInB xs ys out i j c a) (hj : j < ys.length) (ha : a < 256) (hy : ys[j] = y) (hy32 : y < 256) (hq : i + j < out.length) (ho : out[i + j] = o) :
    MulInB xs ys (out.set (i + j) ((c + (a * y + o)) % 256)) i (j + 1) ((c + (a * y + o)) / 256) a := by
  have ho32 : o < 256 := by rw [← ho]; exact h.lt _ (List.getElem_mem _)
  have hb := carry_bdB ha hy32 ho32 h.car
  refine ⟨by simp [h.len], fun d hd => ?_, ?_, ?_, fun q h2 hlt => ?_⟩
  · rcases List.mem_or_eq_of_mem_set hd with hd | rfl
    · exact h.lt d hd
    · exact Nat.mod_lt _ (by decide)
  · omega
  · have hv := h.val_
    have hp := val_put 256 out (i + j) hq ((c + (a * y + o)) % 256)
    rw [ho] at hp
    rw [val_take hj, hy, Nat.mul_add, Nat.add_mul]
    have e1 : a * (y * 256 ^ j) * 256 ^ i = a * y * 256 ^ (i + j) := by
      rw [Nat.pow_add, Nat.mul_comm (256 ^ i), ← Nat.mul_assoc, ← Nat.mul_assoc]
    have e2 : (c + (a * y + o)) / 256 * 256 ^ (i + (j + 1)) = (c + (a * y + o)) / 256 * 256 * 256 ^ (i + j) := by
      have : (256 : Nat) ^ (i + (j + 1)) = 256 * 256 ^ (i + j) := by
        rw [show i + (j + 1) = (i + j) + 1 from rfl, Nat.pow_succ, Nat.mul_comm]
      rw [this, Nat.mul_assoc]
    rw [e1, e2]
    generalize 256 ^ (i + j) = T at *
    generalize val 256 (out.set (i + j) ((c + (a * y + o)) % 256)) = V' at *
    generalize val 256 out = V at *
    generalize val 256 (List.take i xs) * val 256 ys = P0 at *
    generalize a * val 256 (List.take j ys) * 256 ^ i = P1 at *
    have hdm := Nat.div_add_mod (c + (a * y + o)) 256
    generalize (c + (a * y + o)) / 256 = Q at *
    generalize (c + (a * y + o)) % 256 = R at *
    have e3 : (256 * Q + R) * T = (c + (a * y + o)) * T := by rw [hdm]
    rw [Nat.add_mul, Nat.add_mul, Nat.add_mul, Nat.mul_comm 256 Q] at e3
    omega
  · rw [List.getElem_set_ne (by omega)]
    exact h.zero q (by simpa using h2) hlt
theorem MulInB.out {xs ys out : List Nat} {i c a : Nat} (h : MulInB xs ys out i ys.length c a) (hi : i < xs.length) (ha : xs[i] = a) : ∃ hq : i + ys.length < out.length, MulOutB xs ys (out.set (i + ys.length) c) (i + 1) := by
  have hq : i + ys.length < out.length := by have := h.len; omega
  refine ⟨hq, by simp [h.len], fun d hd => ?_, ?_, fun q h2 hlt => ?_⟩
  · rcases List.mem_or_eq_of_mem_set hd with hd | rfl
    · exact h.lt d hd
    · exact h.car
  · have hv := h.val_
    have hp := val_put 256 out (i + ys.length) hq c
    rw [h.zero _ hq (Nat.le_refl _), Nat.zero_mul, Nat.add_zero] at hp
    rw [hp, hv, List.take_length, val_take hi, ha, Nat.add_mul]
    congr 1
    rw [Nat.mul_assoc, Nat.mul_assoc, Nat.mul_comm (val 256 ys)]
  · rw [List.getElem_set_ne (by omega)]
    exact h.zero q (by simpa using h2) (by omega)
theorem MulOutB.fin {xs ys out : List Nat} (h : MulOutB xs ys out xs.length) : trm out = lb (val 256 xs * val 256 ys) := by
  rw [trm_lb h.lt, h.val_, List.take_length]


/-- divSmall's row when the words from i on are divided. -/
structure DivInvB (x q : List Nat) (d i r : Nat) : Prop where
  len : q.length = x.length
  lt : ∀ e ∈ q, e < 256
  val_ : val 256 (q.drop i) * d + r = val 256 (x.drop i)
  rem : r < d
theorem DivInvB.start (x : List Nat) {d : Nat} (hd : 0 < d) : DivInvB x (List.replicate x.length 0) d x.length 0 :=
  ⟨by simp, fun e he => by simp at he; omega, by simp [val], hd⟩
theorem DivInvB.step {x q : List Nat} {d j r y : Nat} (h : DivInvB x q d (j + 1) r) (hj : j < x.length) (hy : x[j] = y) (hy32 : y < 256) (hd : d < 256) :
    (r * 256 + y) / d < 256 ∧ DivInvB x (q.set j ((r * 256 + y) / d)) d j ((r * 256 + y) % d) := by
  have hr := h.rem
  have hjq : j < q.length := by rw [h.len]; exact hj
  have hlt : (r * 256 + y) / d < 256 := by
    rw [Nat.div_lt_iff_lt_mul (by omega)]
    have : (r + 1) * 256 ≤ d * 256 := Nat.mul_le_mul_right _ hr
    rw [Nat.mul_comm 256 d]
    omega
  refine ⟨hlt, by simp [h.len], fun e he => ?_, ?_, Nat.mod_lt _ (by omega)⟩
  · rcases List.mem_or_eq_of_mem_set he with he | rfl
    · exact h.lt e he
    · exact hlt
  · have e1 : (q.set j ((r * 256 + y) / d)).drop j = (r * 256 + y) / d :: q.drop (j + 1) := by
      rw [List.drop_eq_getElem_cons (by simpa using hjq), List.getElem_set_self, List.drop_set_of_lt (by omega)]
    have e2 : x.drop j = y :: x.drop (j + 1) := by rw [List.drop_eq_getElem_cons hj, hy]
    rw [e1, e2]
    simp only [val]
    have hv := h.val_
    have hdm := Nat.div_add_mod (r * 256 + y) d
    rw [← hv, Nat.add_mul, Nat.mul_assoc 256]
    generalize val 256 (q.drop (j + 1)) * d = T at *
    rw [Nat.mul_comm d] at hdm
    generalize (r * 256 + y) / d * d = U at *
    omega
theorem DivInvB.fin {x q : List Nat} {d n r : Nat} (h : DivInvB x q d 0 r) (hn : val 256 x = n) : trm q = lb (n / d) ∧ r = n % d := by
  have hv := h.val_
  rw [List.drop_zero, List.drop_zero, hn] at hv
  have hr := h.rem
  have e1 : n / d = val 256 q := by
    rw [← hv, Nat.add_comm, Nat.add_mul_div_right _ _ (by omega), Nat.div_eq_of_lt hr, Nat.zero_add]
  have e2 : n % d = r := by
    rw [← hv, Nat.add_comm, Nat.add_mul_mod_self_right, Nat.mod_eq_of_lt hr]
  exact ⟨by rw [e1, trm_lb h.lt], e2.symm⟩


end Go.Proofs.Ytpbcbomlhcbfjaa.M
