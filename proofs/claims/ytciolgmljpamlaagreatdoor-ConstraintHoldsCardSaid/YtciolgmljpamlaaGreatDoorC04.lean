/- A bundle of texts: RuMath. -/
import Derived.Lib.Small
import Derived.Test.YtciolgmljpamlaaGreatDoorC01
section
namespace Go.Proofs.YtciolgmljpamlaaGreatDoor
open Go
structure P5 where
  a : Int
  b : Int
  c : Int
  d : Int
  e : Int
  deriving DecidableEq
structure P4 where
  a : Int
  b : Int
  c : Int
  d : Int
  deriving DecidableEq
abbrev p5c (p : P5) : Array Value := #[.int .i64 p.a, .int .i64 p.b, .int .i64 p.c, .int .i64 p.d, .int .i64 p.e]
abbrev p5v (p : P5) : Value := .agg #[.int .i64 p.a, .int .i64 p.b, .int .i64 p.c, .int .i64 p.d, .int .i64 p.e]
abbrev p4c (p : P4) : Array Value := #[.int .i64 p.a, .int .i64 p.b, .int .i64 p.c, .int .i64 p.d]
abbrev p4v (p : P4) : Value := .agg #[.int .i64 p.a, .int .i64 p.b, .int .i64 p.c, .int .i64 p.d]
def p5cell (p : P5) (j : Nat) : Value := ((p5c p)[j]?).getD (.int .i64 0)
def p4cell (p : P4) (j : Nat) : Value := ((p4c p)[j]?).getD (.int .i64 0)
theorem p5_one (p : P5) (j : Nat) : (p5cell p j).oneCell' = true := by
  rcases j with _ | _ | _ | _ | _ | j <;> rfl
theorem p4_one (p : P4) (j : Nat) : (p4cell p j).oneCell' = true := by
  rcases j with _ | _ | _ | _ | j <;> rfl
def P5.l (p : P5) : List Int := [p.a, p.b, p.c, p.d, p.e]
def P4.l (p : P4) : List Int := [p.a, p.b, p.c, p.d]
namespace M
def orI : List Int → Int
  | [] => 0
  | x :: l => if x = 0 then orI l else x
def lessI : List Int → List Int → Bool
  | x :: a, y :: b => if x = y then lessI a b else decide (x < y)
  | _, _ => false
def cmpL (a b : List Int) : Int := orI (List.zipWith Lib.compareInt a b)
def cmp5 (p q : P5) : Int := cmpL p.l q.l
def cmp4 (p q : P4) : Int := cmpL p.l q.l
theorem cI_zero {x y : Int} : Lib.compareInt x y = 0 ↔ x = y := by
  unfold Lib.compareInt; (repeat' split) <;> omega
theorem cI_neg {x y : Int} : Lib.compareInt x y < 0 ↔ x < y := by
  unfold Lib.compareInt; (repeat' split) <;> omega
theorem cmpL_less : ∀ {a b : List Int}, a.length = b.length → decide (cmpL a b < 0) = lessI a b
  | [], [], _ => rfl
  | x :: a, y :: b, h => by
    unfold cmpL
    rw [List.zipWith_cons_cons, orI, lessI]
    have ih := cmpL_less (a := a) (b := b) (by simpa using h)
    by_cases e : x = y
    · rw [if_pos (cI_zero.2 e), if_pos e]
      exact ih
    · rw [if_neg (fun h => e (cI_zero.1 h)), if_neg e, decide_eq_decide]
      exact cI_neg
theorem cmpL_zero : ∀ {a b : List Int}, a.length = b.length → (cmpL a b = 0 ↔ a = b)
  | [], [], _ => by simp [cmpL, orI]
  | x :: a, y :: b, h => by
    unfold cmpL
    rw [List.zipWith_cons_cons, orI]
    have ih := cmpL_zero (a := a) (b := b) (by simpa using h)
    by_cases e : x = y
    · rw [if_pos (cI_zero.2 e)]
      subst e
      rw [List.cons.injEq]
      simp only [true_and]
      exact ih
    · rw [if_neg (fun h => e (cI_zero.1 h))]
      constructor
      · intro h2; exact absurd (cI_zero.1 h2) e
      · intro h2; injection h2 with h3; exact absurd h3 e
theorem lessI_irrefl : ∀ a : List Int, lessI a a = false
  | [] => rfl
  | x :: a => by rw [lessI, if_pos rfl]; exact lessI_irrefl a
theorem lessI_trans : ∀ {a b c : List Int}, lessI a b = true → lessI b c = true → lessI a c = true
  | [], _, _, h, _ => by simp [lessI] at h
  | _ :: _, [], _, h, _ => by simp [lessI] at h
  | _ :: _, _ :: _, [], _, h => by simp [lessI] at h
  | x :: a, y :: b, z :: c, h1, h2 => by
    rw [lessI] at *
    by_cases e1 : x = y
    · subst e1
      rw [if_pos rfl] at h1
      by_cases e2 : x = z
      · rw [if_pos e2] at h2 ⊢
        exact lessI_trans h1 h2
      · rw [if_neg e2] at h2 ⊢
        exact h2
    · rw [if_neg e1, decide_eq_true_eq] at h1
      by_cases e2 : y = z
      · subst e2
        rw [if_neg e1, decide_eq_true_eq]
        exact h1
      · rw [if_neg e2, decide_eq_true_eq] at h2
        rw [if_neg (by omega), decide_eq_true_eq]
        omega
theorem lessI_total : ∀ {a b : List Int}, a.length = b.length → lessI a b = false → lessI b a = false → a = b
  | [], [], _, _, _ => rfl
  | x :: a, y :: b, h, h1, h2 => by
    rw [lessI] at h1 h2
    by_cases e : x = y
    · subst e
      rw [if_pos rfl] at h1 h2
      rw [lessI_total (by simpa using h) h1 h2]
    · rw [if_neg e, decide_eq_false_iff_not] at h1
      rw [if_neg (fun h => e h.symm), decide_eq_false_iff_not] at h2
      omega
theorem p5_inj {p q : P5} (h : p.l = q.l) : p = q := by
  cases p; cases q
  simp only [P5.l, List.cons.injEq] at h
  simp [h]
theorem p4_inj {p q : P4} (h : p.l = q.l) : p = q := by
  cases p; cases q
  simp only [P4.l, List.cons.injEq] at h
  simp [h]
theorem cmp5_less (p q : P5) : decide (cmp5 p q < 0) = lessI p.l q.l := cmpL_less rfl
theorem cmp4_less (p q : P4) : decide (cmp4 p q < 0) = lessI p.l q.l := cmpL_less rfl
theorem cmp5_zero {p q : P5} : cmp5 p q = 0 ↔ p = q := (cmpL_zero (a := p.l) (b := q.l) rfl).trans ⟨p5_inj, fun h => by rw [h]⟩
theorem cmp4_zero {p q : P4} : cmp4 p q = 0 ↔ p = q := (cmpL_zero (a := p.l) (b := q.l) rfl).trans ⟨p4_inj, fun h => by rw [h]⟩
def isIn16 (x lo hi : Int) : Bool := decide (lo ≤ x) && decide (x ≤ hi)
def rng (lo hi : Int) : Bool := decide (2 ≤ lo) && decide (lo ≤ hi) && decide (hi ≤ 51)
def vPair (p : P5) : Bool := isIn16 p.a 0 511 && isIn16 p.b 0 511 && decide (p.a < p.b) && isIn16 p.c (-1) 1 && rng p.d p.e
def vLoad (p : P5) : Bool := isIn16 p.a 0 511 && isIn16 p.b 0 511 && decide (p.a ≠ p.b) && isIn16 p.c 1 1073741824 && rng p.d p.e
def vCap (p : P4) : Bool := isIn16 p.a 0 511 && isIn16 p.b 0 1099511627776 && rng p.c p.d
def vstep {α : Type} (v : α → Bool) (cf : α → α → Int) (l : List α) (k : Nat) : Bool :=
  match l[k]? with
  | none => true
  | some x => v x && (match k with | 0 => true | j + 1 => match l[j]? with | none => true | some y => decide (cf y x < 0))
def vscan {α : Type} (v : α → Bool) (cf : α → α → Int) (l : List α) (k : Nat) : Bool := (List.range k).all (vstep v cf l)
def vlist {α : Type} (most : Nat) (v : α → Bool) (cf : α → α → Int) (l : List α) : Bool := decide (l.length ≤ most) && vscan v cf l l.length
theorem vscan_succ {α : Type} (v : α → Bool) (cf : α → α → Int) (l : List α) (k : Nat) : vscan v cf l (k + 1) = (vscan v cf l k && vstep v cf l k) := by
  unfold vscan
  rw [List.range_succ, List.all_append]
  simp
theorem vscan_no {α : Type} {v : α → Bool} {cf : α → α → Int} {l : List α} {k n : Nat} (h : vstep v cf l k = false) (hk : k < n) : vscan v cf l n = false := by
  unfold vscan
  rw [List.all_eq_false]
  exact ⟨k, by simpa using hk, by simp [h]⟩
theorem vstep_at {α : Type} {v : α → Bool} {cf : α → α → Int} {l : List α} {k : Nat} (hk : k < l.length) : vstep v cf l k = (v l[k] && (match k, hk with | 0, _ => true | j + 1, h => decide (cf l[j] l[j + 1] < 0))) := by
  unfold vstep
  rw [List.getElem?_eq_getElem hk]
  cases k with
  | zero => rfl
  | succ j => simp only [List.getElem?_eq_getElem (show j < l.length by omega)]
def rvalid (ps ls : List P5) (cs : List P4) : Bool := vlist 4096 vPair cmp5 ps && vlist 1024 vLoad cmp5 ls && vlist 1024 vCap cmp4 cs
def near (n m : Int) (ps ls : List P5) : Bool := (ps.any fun p => (decide (p.a = n) && decide (p.b = m)) || (decide (p.a = m) && decide (p.b = n))) || (ls.any fun p => (decide (p.a = n) && decide (p.b = m)) || (decide (p.a = m) && decide (p.b = n)))
def nbs (n : Int) (ps ls : List P5) : List Int := ((List.range 512).filter fun (m : Nat) => near n m ps ls).map fun (i : Nat) => (i : Int)
def lnk (n : Int) (p : P5) : List Int := if n = p.a then [p.b] else if n = p.b then [p.a] else []
def lnks (n : Int) (l : List P5) : List Int := l.flatMap (lnk n)
theorem lnk_mem {n m : Int} {p : P5} (hp : p.a ≠ p.b) : m ∈ lnk n p ↔ (p.a = n ∧ p.b = m) ∨ (p.a = m ∧ p.b = n) := by
  unfold lnk
  by_cases h1 : n = p.a
  · rw [if_pos h1]
    simp only [List.mem_singleton]
    constructor
    · intro h; exact .inl ⟨h1.symm, h.symm⟩
    · rintro (⟨_, h⟩ | ⟨h, h2⟩)
      · exact h.symm
      · exact absurd (h1.symm.trans h2.symm) hp
  · rw [if_neg h1]
    by_cases h2 : n = p.b
    · rw [if_pos h2]
      simp only [List.mem_singleton]
      constructor
      · intro h; exact .inr ⟨h.symm, h2.symm⟩
      · rintro (⟨h, _⟩ | ⟨h, _⟩)
        · exact absurd h.symm h1
        · exact h.symm
    · rw [if_neg h2]
      simp only [List.not_mem_nil, false_iff]
      rintro (⟨h, _⟩ | ⟨_, h⟩)
      · exact h1 h.symm
      · exact h2 h.symm
theorem lnks_mem {n m : Int} {l : List P5} (h : ∀ p ∈ l, p.a ≠ p.b) : m ∈ lnks n l ↔ (l.any fun p => (decide (p.a = n) && decide (p.b = m)) || (decide (p.a = m) && decide (p.b = n))) = true := by
  unfold lnks
  rw [List.mem_flatMap, List.any_eq_true]
  constructor
  · rintro ⟨p, hp, hm⟩
    refine ⟨p, hp, ?_⟩
    have := (lnk_mem (h p hp)).1 hm
    simpa using this
  · rintro ⟨p, hp, hm⟩
    exact ⟨p, hp, (lnk_mem (h p hp)).2 (by simpa using hm)⟩
theorem rising_eq : ∀ {a b : List Int}, a.Pairwise (· < ·) → b.Pairwise (· < ·) → (∀ x, x ∈ a ↔ x ∈ b) → a = b
  | [], [], _, _, _ => rfl
  | [], y :: b, _, _, h => absurd ((h y).2 (by simp)) (by simp)
  | x :: a, [], _, _, h => absurd ((h x).1 (by simp)) (by simp)
  | x :: a, y :: b, h1, h2, h => by
    rw [List.pairwise_cons] at h1 h2
    have hxy : x = y := by
      have hx := (h x).1 (by simp)
      have hy := (h y).2 (by simp)
      rcases List.mem_cons.1 hx with e | e
      · exact e
      · rcases List.mem_cons.1 hy with e2 | e2
        · exact e2.symm
        · have := h2.1 x e; have := h1.1 y e2; omega
    subst hxy
    rw [rising_eq h1.2 h2.2 (fun z => ?_)]
    constructor
    · intro hz
      rcases List.mem_cons.1 ((h z).1 (by simp [hz])) with e | e
      · have := h1.1 z hz; omega
      · exact e
    · intro hz
      rcases List.mem_cons.1 ((h z).2 (by simp [hz])) with e | e
      · have := h2.1 z hz; omega
      · exact e
theorem range_rising (p : Nat → Bool) (n : Nat) : (((List.range n).filter p).map fun (i : Nat) => (i : Int)).Pairwise (· < ·) := by
  refine List.pairwise_map.2 (List.Pairwise.imp ?_ (List.Pairwise.filter p List.pairwise_lt_range))
  intro a b h
  omega
theorem nbs_of {n : Int} {ps ls : List P5} {ss : List Int} (hs : ss.Pairwise (· < ·)) (hp : ∀ p ∈ ps, p.a ≠ p.b ∧ (0 ≤ p.a ∧ p.a ≤ 511) ∧ (0 ≤ p.b ∧ p.b ≤ 511)) (hl : ∀ p ∈ ls, p.a ≠ p.b ∧ (0 ≤ p.a ∧ p.a ≤ 511) ∧ (0 ≤ p.b ∧ p.b ≤ 511)) (hm : ∀ x, x ∈ ss ↔ x ∈ lnks n ps ++ lnks n ls) : ss = nbs n ps ls := by
  refine rising_eq hs (range_rising _ _) fun x => ?_
  rw [hm, List.mem_append, lnks_mem (fun p h => (hp p h).1), lnks_mem (fun p h => (hl p h).1)]
  unfold nbs
  rw [List.mem_map]
  constructor
  · intro h
    have hx : 0 ≤ x ∧ x ≤ 511 := by
      rcases h with h | h
      · obtain ⟨p, hpm, h2⟩ := List.any_eq_true.1 h
        have := hp p hpm
        simp at h2
        omega
      · obtain ⟨p, hpm, h2⟩ := List.any_eq_true.1 h
        have := hl p hpm
        simp at h2
        omega
    refine ⟨x.toNat, ?_, by omega⟩
    rw [List.mem_filter]
    refine ⟨by rw [List.mem_range]; omega, ?_⟩
    have e : ((x.toNat : Nat) : Int) = x := by omega
    unfold near
    rw [e, Bool.or_eq_true]
    exact h
  · rintro ⟨i, hi, rfl⟩
    rw [List.mem_filter] at hi
    have := hi.2
    unfold near at this
    rwa [Bool.or_eq_true] at this
end M
end Go.Proofs.YtciolgmljpamlaaGreatDoor
end
