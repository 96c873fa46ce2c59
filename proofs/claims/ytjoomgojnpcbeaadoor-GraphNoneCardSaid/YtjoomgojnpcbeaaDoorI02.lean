/- A bundle of texts: GhK0, GeM, GeL, BsPop, GhD. -/
import Derived.Test.YtjoomgojnpcbeaaDoorI01
section
namespace Go.Proofs.YtjoomgojnpcbeaaDoor
open Gh
set_option maxRecDepth 100000
namespace Gh
def mexF (u : Nat) : Nat → Nat → Nat
  | 0, k => k
  | f + 1, k => if u.testBit k = true then mexF u f (k + 1) else k
def usedF (f : Nat → Nat) (L : List Nat) : Nat := L.foldl (fun u w => u ||| 2 ^ f w) 0
def colR (R : List Nat) (st : Nat × (Nat → Nat)) (v : Nat) : Nat × (Nat → Nat) :=
  (st.1 ||| 2 ^ v, upd st.2 v (mexF (usedF st.2 (Bs.els (Dg.row R v &&& st.1) 0)) 512 (st.2 v)))
def colF (R : List Nat) (o : List Nat) : Nat × (Nat → Nat) := o.foldl (colR R) (0, fun _ => 0)
theorem colF_snoc (R o : List Nat) (v : Nat) : colF R (o ++ [v]) = colR R (colF R o) v := by unfold colF; rw [List.foldl_append]; rfl
theorem mexF_le {u m : Nat} (hu : ∀ k, u.testBit k = true → k < m) : ∀ f k, k ≤ m → mexF u f k ≤ m
  | 0, k, hk => hk
  | f + 1, k, hk => by
    unfold mexF
    split
    · next h => exact mexF_le hu f (k + 1) (hu k h)
    · exact hk
theorem mexF_step {u k : Nat} (f : Nat) (h : u.testBit k = true) : mexF u (f + 1) k = mexF u f (k + 1) := by rw [mexF, if_pos h]
theorem mexF_end {u k : Nat} (f : Nat) (h : u.testBit k = false) : mexF u f k = k := by
  cases f with
  | zero => rfl
  | succ f => rw [mexF, if_neg (by rw [h]; decide)]
theorem mexF_fuel {u m : Nat} (hu : ∀ k, u.testBit k = true → k < m) : ∀ f g k, m ≤ k + f → m ≤ k + g → mexF u f k = mexF u g k
  | 0, g, k, hf, _ => by
    have h : u.testBit k = false := by
      cases e : u.testBit k with
      | false => rfl
      | true => have := hu k e; omega
    rw [mexF_end _ h, mexF_end _ h]
  | f + 1, 0, k, _, hg => by
    have h : u.testBit k = false := by
      cases e : u.testBit k with
      | false => rfl
      | true => have := hu k e; omega
    rw [mexF_end _ h, mexF_end _ h]
  | f + 1, g + 1, k, hf, hg => by
    cases e : u.testBit k with
    | false => rw [mexF_end _ e, mexF_end _ e]
    | true => rw [mexF_step f e, mexF_step g e]; exact mexF_fuel hu f g (k + 1) (by omega) (by omega)
theorem used_snoc (f : Nat → Nat) (L : List Nat) (w : Nat) : usedF f (L ++ [w]) = usedF f L ||| 2 ^ f w := by unfold usedF; rw [List.foldl_append]; rfl
theorem usedA_bit (f : Nat → Nat) : ∀ (L : List Nat) (a k : Nat), (L.foldl (fun u w => u ||| 2 ^ f w) a).testBit k = true ↔ a.testBit k = true ∨ ∃ w ∈ L, f w = k
  | [], a, k => by simp
  | w :: L, a, k => by
    rw [List.foldl_cons, usedA_bit f L _ k, Nat.testBit_or, Nat.testBit_two_pow]
    simp only [Bool.or_eq_true, decide_eq_true_eq, List.mem_cons, exists_eq_or_imp]
    exact or_assoc
theorem used_bit {f : Nat → Nat} {L : List Nat} {k : Nat} : (usedF f L).testBit k = true ↔ ∃ w ∈ L, f w = k := by
  unfold usedF; rw [usedA_bit]; simp
structure CI (n : Nat) (R : List Nat) (o : List Nat) : Prop where
  bit : ∀ x, (colF R o).1.testBit x = true ↔ x ∈ o
  lt : ∀ x ∈ o, (colF R o).2 x < o.length
  zero : ∀ x, x ∉ o → (colF R o).2 x = 0
theorem CI.nil (n : Nat) (R : List Nat) : CI n R [] := ⟨by simp [colF], by simp, fun _ _ => rfl⟩
theorem CI.used {n : Nat} {R o : List Nat} (h : CI n R o) (s : Nat) : ∀ k, (usedF (colF R o).2 (Bs.els (s &&& (colF R o).1) 0)).testBit k = true → k < o.length := by
  intro k hk
  obtain ⟨w, hw, rfl⟩ := used_bit.1 hk
  have hb := ((Bs.els_mem (Nat.zero_le _)).1 hw).2.2
  rw [Nat.testBit_and, Bool.and_eq_true] at hb
  exact h.lt w ((h.bit w).1 hb.2)
theorem CI.snoc {n : Nat} {R o : List Nat} {v : Nat} (h : CI n R o) (hv : v ∉ o) : CI n R (o ++ [v]) := by
  refine ⟨fun x => ?_, fun x hx => ?_, fun x hx => ?_⟩
  · rw [colF_snoc]; unfold colR; dsimp only
    rw [Nat.testBit_or, Nat.testBit_two_pow, Bool.or_eq_true, h.bit, List.mem_append, List.mem_singleton, decide_eq_true_eq]
    exact or_congr Iff.rfl eq_comm
  · rw [colF_snoc, List.length_append, List.length_singleton]; unfold colR; dsimp only
    by_cases e : x = v
    · subst e
      have := mexF_le (h.used (Dg.row R x)) 512 ((colF R o).2 x) (by rw [h.zero x hv]; omega)
      rw [upd, if_pos rfl]; omega
    · rw [upd, if_neg e]
      rcases List.mem_append.1 hx with hx | hx
      · have := h.lt x hx; omega
      · exact absurd (List.mem_singleton.1 hx) e
  · rw [colF_snoc]; unfold colR; dsimp only
    rw [List.mem_append, not_or] at hx
    rw [upd, if_neg (fun e => hx.2 (by simp [e]))]
    exact h.zero x hx.1
theorem CI.all {n : Nat} {R : List Nat} : ∀ k (o : List Nat), o.length = k → o.Nodup → CI n R o
  | 0, o, hk, _ => by rw [List.length_eq_zero_iff.1 hk]; exact CI.nil n R
  | k + 1, o, hk, hn => by
    have hne : o ≠ [] := by intro e; rw [e] at hk; simp at hk
    rw [← List.dropLast_concat_getLast hne] at hn ⊢
    obtain ⟨h1, -, h2⟩ := List.nodup_append.1 hn
    exact (CI.all k _ (by rw [List.length_dropLast, hk]; rfl) h1).snoc (fun hv => h2 _ hv _ (by simp) rfl)
def okO (n : Nat) : Nat → List Int → Bool
  | _, [] => true
  | all, v :: o => if 0 ≤ v ∧ v < (n : Int) ∧ all.testBit v.toNat = false then okO n (all ||| 2 ^ v.toNat) o else false
end Gh
end Go.Proofs.YtjoomgojnpcbeaaDoor
end

section
namespace Go.Proofs.YtjoomgojnpcbeaaDoor
namespace Ge
open Bs Dg Gh
abbrev Ed := Nat × Nat
def hit (a b : Int) (e : Ed) : Bool := (decide ((e.1 : Int) = a) && decide ((e.2 : Int) = b)) || (decide ((e.1 : Int) = b) && decide ((e.2 : Int) = a))
def has (E : List Ed) (a b : Int) : Bool := E.any (hit a b)
theorem hit_comm (a b : Int) (e : Ed) : hit a b e = hit b a e := Bool.or_comm _ _
theorem has_comm (E : List Ed) (a b : Int) : has E a b = has E b a := by
  unfold has; congr 1; funext e; exact hit_comm a b e
theorem has_snoc (E : List Ed) (e : Ed) (a b : Int) : has (E ++ [e]) a b = (has E a b || hit a b e) := by unfold has; rw [List.any_append]; simp
def badA (n : Nat) (a b : Int) : Bool := decide (a < 0) || decide ((n : Int) ≤ a) || decide (b < 0) || decide ((n : Int) ≤ b) || decide (a = b)
def add (n : Nat) (E : List Ed) (a b : Int) : List Ed × Int := if badA n a b = true then (E, 2) else if has E a b = true then (E, 11) else (E ++ [(a.toNat, b.toNat)], 0)
theorem badA_no {n : Nat} {a b : Int} (h : badA n a b = false) : ∃ x y : Nat, a = x ∧ b = y ∧ x < n ∧ y < n ∧ x ≠ y := by
  unfold badA at h
  simp only [Bool.or_eq_false_iff, decide_eq_false_iff_not] at h
  exact ⟨a.toNat, b.toNat, by omega, by omega, by omega, by omega, by omega⟩
structure ER (n : Nat) (E : List Ed) (R : List Nat) : Prop where
  len : R.length = n
  le : n ≤ 512
  lt : ∀ e ∈ E, e.1 < n ∧ e.2 < n ∧ e.1 ≠ e.2
  bit : ∀ a b : Nat, (row R a).testBit b = has E a b
theorem has_lt {E : List Ed} {n : Nat} (h : ∀ e ∈ E, e.1 < n ∧ e.2 < n ∧ e.1 ≠ e.2) {a b : Int} (hh : has E a b = true) : ∃ x y : Nat, a = x ∧ b = y ∧ x < n ∧ y < n ∧ x ≠ y := by
  unfold has at hh
  obtain ⟨e, he, hb⟩ := List.any_eq_true.1 hh
  have := h e he
  unfold hit at hb
  simp only [Bool.or_eq_true, Bool.and_eq_true, decide_eq_true_eq] at hb
  rcases hb with ⟨h1, h2⟩ | ⟨h1, h2⟩
  · exact ⟨e.1, e.2, h1.symm, h2.symm, by omega⟩
  · exact ⟨e.2, e.1, h2.symm, h1.symm, by omega⟩
section
variable {n : Nat} {E : List Ed} {R : List Nat}
theorem ER.sym (h : ER n E R) (a b : Nat) : (row R a).testBit b = (row R b).testBit a := by rw [h.bit, h.bit, has_comm]
theorem ER.sy (h : ER n E R) : ∀ a b, (row R a).testBit b = true → (row R b).testBit a = true := fun a b hh => by rw [h.sym]; exact hh
theorem ER.fit (h : ER n E R) : ∀ v x, (row R v).testBit x = true → x < R.length := fun v x hx => by
  rw [h.bit] at hx
  obtain ⟨a, b, h1, h2, h3, h4, -⟩ := has_lt h.lt hx
  have := h.len
  omega
theorem ER.ok (h : ER n E R) : Ok R := ⟨by rw [h.len]; exact h.le, fun v x hx => h.fit v x hx⟩
theorem ER.loop (h : ER n E R) (v : Nat) : (row R v).testBit v = false := by
  rw [h.bit]
  cases hc : has E v v with
  | false => rfl
  | true => obtain ⟨a, b, h1, h2, h3, h4, h5⟩ := has_lt h.lt hc; omega
theorem row_rep (n v : Nat) : row (List.replicate n 0) v = 0 := by
  unfold row
  rw [List.getD_eq_getElem?_getD, List.getElem?_replicate]
  split <;> rfl
theorem ER.nil (hn : n ≤ 512) : ER n [] (List.replicate n 0) := ⟨by simp, hn, by simp, fun a b => by rw [row_rep]; simp [has]⟩
theorem rset_ne {R : List Nat} {a b : Nat} (h : a ≠ b) (x : Nat) : row (R.set a x) b = row R b := by
  unfold row
  rw [List.getD_eq_getElem?_getD, List.getD_eq_getElem?_getD, List.getElem?_set_ne h]
theorem rset_eq {R : List Nat} {a : Nat} (h : a < R.length) (x : Nat) : row (R.set a x) a = x := by
  unfold row
  rw [List.getD_eq_getElem?_getD, List.getElem?_set_self h]
  rfl
theorem pow_bit (a j : Nat) : (2 ^ a).testBit j = decide (a = j) := by rw [Nat.testBit_two_pow]
theorem ER.push (h : ER n E R) {a b : Nat} (ha : a < n) (hb : b < n) (hab : a ≠ b) : ER n (E ++ [(a, b)]) ((R.set a (row R a ||| 2 ^ b)).set b (row R b ||| 2 ^ a)) := by
  have hl := h.len
  refine ⟨by simp [hl], h.le, fun e he => ?_, fun x y => ?_⟩
  · rcases List.mem_append.1 he with he | he
    · exact h.lt e he
    · rw [List.mem_singleton.1 he]; exact ⟨ha, hb, hab⟩
  · rw [has_snoc]
    unfold hit
    dsimp only
    have c1 : decide ((a : Int) = (x : Int)) = decide (a = x) := by rw [decide_eq_decide]; omega
    have c2 : decide ((b : Int) = (y : Int)) = decide (b = y) := by rw [decide_eq_decide]; omega
    have c3 : decide ((a : Int) = (y : Int)) = decide (a = y) := by rw [decide_eq_decide]; omega
    have c4 : decide ((b : Int) = (x : Int)) = decide (b = x) := by rw [decide_eq_decide]; omega
    rw [c1, c2, c3, c4, ← h.bit]
    by_cases e1 : b = x
    · subst e1
      rw [rset_eq (by simp; omega), Nat.testBit_or, pow_bit, decide_eq_true (rfl : b = b), decide_eq_false hab]
      simp
    · rw [rset_ne e1, decide_eq_false e1]
      by_cases e2 : a = x
      · subst e2
        rw [rset_eq (by omega), Nat.testBit_or, pow_bit, decide_eq_true (rfl : a = a)]
        simp
      · rw [rset_ne e2, decide_eq_false e2]
        simp
end
def nbr (E : List Ed) (v : Nat) (L : List Nat) : List Nat := L.filter fun u => has E v u
theorem nbr_snoc (E : List Ed) (v : Nat) (L : List Nat) (x : Nat) : nbr E v (L ++ [x]) = if has E v x = true then nbr E v L ++ [x] else nbr E v L := by
  unfold nbr
  rw [List.filter_append]
  cases hx : has E v x with
  | true => simp [hx]
  | false => simp [hx]
theorem range_filter {p : Nat → Bool} {n m : Nat} (h : n ≤ m) (hp : ∀ x, p x = true → x < n) : (List.range m).filter p = (List.range n).filter p := by
  have h1 : List.range m = List.range n ++ (List.range (m - n)).map (n + ·) := by
    rw [← List.range_add]; congr 1; omega
  have h2 : ((List.range (m - n)).map (n + ·)).filter p = [] := by
    rw [List.filter_eq_nil_iff]
    intro a ha hpa
    obtain ⟨q, -, rfl⟩ := List.mem_map.1 ha
    have := hp _ hpa
    omega
  rw [h1, List.filter_append, h2, List.append_nil]
section
variable {n : Nat} {E : List Ed} {R : List Nat}
theorem els_n {S n : Nat} (hn : n ≤ 512) (h : ∀ x, S.testBit x = true → x < n) : els S 0 = (List.range n).filter fun j => S.testBit j := by rw [els_filter, range_filter hn h]
theorem ER.nbr_all (h : ER n E R) (v : Nat) : nbr E v (List.range n) = els (row R v) 0 := by
  rw [els_n h.le (fun x hx => by have := h.fit v x hx; rwa [h.len] at this)]
  unfold nbr
  exact List.filter_congr fun x _ => (h.bit v x).symm
theorem ER.nbr_els (h : ER n E R) (v S : Nat) : nbr E v (els S 0) = els (row R v &&& S) 0 := by
  rw [els_filter, els_filter]
  unfold nbr
  rw [List.filter_filter]
  exact List.filter_congr fun x _ => by rw [Nat.testBit_and, h.bit]
end
def wo (L : List Nat) (v : Nat) : List Nat := L.filter fun x => x != v
-- the order of removal
def best (E : List Ed) (left : List Nat) (b : Nat) (l : List Nat) : Nat := l.foldl (fun b v => if (nbr E v left).length < (nbr E b left).length then v else b) b
def bst (E : List Ed) (left : List Nat) : Nat := best E left (left.headD 0) left
def rem (E : List Ed) (n : Nat) : Nat → List Nat × List Nat × Nat
  | 0 => ([], List.range n, 0)
  | k + 1 => ((rem E n k).1 ++ [bst E (rem E n k).2.1], wo (rem E n k).2.1 (bst E (rem E n k).2.1), max (rem E n k).2.2 (nbr E (bst E (rem E n k).2.1) (rem E n k).2.1).length)
section
variable {n : Nat} {E : List Ed} {R : List Nat}
theorem ER.deg (h : ER n E R) (S v : Nat) : (nbr E v (els S 0)).length = deg R S v := by rw [h.nbr_els]; rfl
theorem ER.bst (h : ER n E R) {S : Nat} (hS : Fit S) (hne : S ≠ 0) : bst E (els S 0) = pick R S := by
  have h0 : (els S 0).headD 0 = fst S := by
    rcases els_nxt (n := S) (i := 0) (by omega) with ⟨h1, h2⟩ | ⟨j, h1, h2, h3, h4, h5⟩
    · exfalso
      obtain ⟨j, hj⟩ := ne_bit hne
      rw [Nat.zero_testBit] at hj
      have hj : S.testBit j = true := by cases hb : S.testBit j with | true => rfl | false => exact absurd hb hj
      have := (mem_els hS).2 hj
      rw [h2] at this
      cases this
    · unfold fst
      rw [h3, h5]
      simp
  unfold Ge.bst pick
  rw [h0]
  unfold best pickF
  congr 1
  funext b v
  rw [h.deg, h.deg]
theorem wo_els (S v : Nat) : wo (els S 0) v = els (dif S (2 ^ v)) 0 := by
  rw [els_filter, els_filter]
  unfold wo
  rw [List.filter_filter]
  refine List.filter_congr fun x _ => ?_
  rw [dif_bit, pow_bit, Bool.and_comm]
  congr 1
  by_cases e : v = x
  · subst e; simp
  · rw [decide_eq_false e]; simp; omega
theorem els_all {n : Nat} (hn : n ≤ 512) : els (2 ^ n - 1) 0 = List.range n := by
  rw [els_n hn (fun x hx => by rw [Nat.testBit_two_pow_sub_one] at hx; simpa using hx), List.filter_eq_self]
  intro a ha
  rw [Nat.testBit_two_pow_sub_one]
  simpa using ha
theorem ER.rem (h : ER n E R) : ∀ k, k ≤ n → rem E n k = ((rmv R k).1, els (rmv R k).2.1 0, (rmv R k).2.2)
  | 0, _ => by
    show ([], List.range n, 0) = ([], els (2 ^ R.length - 1) 0, 0)
    rw [h.len, els_all h.le]
  | k + 1, hk => by
    have ih := h.rem k (by omega)
    have hl : R.length ≤ 512 := by rw [h.len]; exact h.le
    have hI := rmv_ok hl k (by rw [h.len]; omega)
    have hb := h.bst hI.fit (rmv_ne (by rw [h.len]; omega) hI)
    show ((Ge.rem E n k).1 ++ [Ge.bst E (Ge.rem E n k).2.1], wo (Ge.rem E n k).2.1 (Ge.bst E (Ge.rem E n k).2.1), max (Ge.rem E n k).2.2 (nbr E (Ge.bst E (Ge.rem E n k).2.1) (Ge.rem E n k).2.1).length) = ((rmv R k).1 ++ [pick R (rmv R k).2.1], els (dif (rmv R k).2.1 (2 ^ pick R (rmv R k).2.1)) 0, max (rmv R k).2.2 (Gh.deg R (rmv R k).2.1 (pick R (rmv R k).2.1)))
    rw [ih]
    dsimp only
    rw [hb, wo_els, h.deg]
end
-- the greedy clique
def choR (E : List Ed) (ch : List Nat) (v : Nat) : List Nat := if (nbr E v ch).length = ch.length then ch ++ [v] else ch
def cho (E : List Ed) (o : List Nat) : List Nat := o.foldl (choR E) []
def pickIn (n : Nat) (ch : List Nat) : List Nat := (List.range n).filter fun v => decide (v ∈ ch)
def cliq (E : List Ed) (n : Nat) : List Nat := pickIn n (cho E (rem E n n).1.reverse)
-- the colours
def colS (E : List Ed) (o : List Nat) (st : Nat × (Nat → Nat)) (v : Nat) : Nat × (Nat → Nat) := (st.1 + 1, upd st.2 v (mexF (usedF st.2 (nbr E v (o.take st.1))) 512 0))
def colE (E : List Ed) (o : List Nat) (k : Nat) : Nat × (Nat → Nat) := (o.take k).foldl (colS E o) (0, fun _ => 0)
theorem colE_next {E : List Ed} {o : List Nat} {k : Nat} (hk : k < o.length) : colE E o (k + 1) = colS E o (colE E o k) o[k] := by
  unfold colE; rw [List.take_succ_eq_append_getElem hk, List.foldl_append]; rfl
theorem colE_1 (E : List Ed) (o : List Nat) : ∀ k, k ≤ o.length → (colE E o k).1 = k
  | 0, _ => rfl
  | k + 1, hk => by rw [colE_next (by omega)]; unfold colS; dsimp only; rw [colE_1 E o k (by omega)]
-- the components
def grow (L : List Nat) (p : List Nat) : List Nat := L.foldl (fun p x => if x ∈ p then p else p ++ [x]) p
theorem grow_snoc (L p : List Nat) (x : Nat) : grow (L ++ [x]) p = if x ∈ grow L p then grow L p else grow L p ++ [x] := by unfold grow; rw [List.foldl_append]; rfl
def bfs (E : List Ed) (vs : List Nat) : Nat → Nat → List Nat → List Nat
  | 0, _, p => p
  | f + 1, k, p => if h : k < p.length then bfs E vs f (k + 1) (grow (nbr E p[k] vs) p) else p
def prt (E : List Ed) (vs : List Nat) (v : Nat) : List Nat := bfs E vs (vs.length + 1) 0 [v]
def inp (vs p : List Nat) : List Nat := vs.filter fun x => decide (x ∈ p)
def compS (E : List Ed) (vs : List Nat) (st : List (List Nat) × List Nat) (v : Nat) : List (List Nat) × List Nat := if v ∈ st.2 then st else (st.1 ++ [inp vs (prt E vs v)], st.2 ++ prt E vs v)
def compF (E : List Ed) (vs l : List Nat) : List (List Nat) × List Nat := l.foldl (compS E vs) ([], [])
def comps (E : List Ed) (vs : List Nat) : List (List Nat) := (compF E vs vs).1
theorem compF_snoc (E : List Ed) (vs l : List Nat) (v : Nat) : compF E vs (l ++ [v]) = compS E vs (compF E vs l) v := by unfold compF; rw [List.foldl_append]; rfl
end Ge
end Go.Proofs.YtjoomgojnpcbeaaDoor
end

section
namespace Go.Proofs.YtjoomgojnpcbeaaDoor
namespace Ge
open Bs Dg Gh
theorem nodup_le {l m : List Nat} (hn : l.Nodup) (hs : ∀ x ∈ l, x ∈ m) : l.length ≤ m.length := by
  induction l generalizing m with
  | nil => simp
  | cons a l ih =>
    obtain ⟨h1, h2⟩ := List.nodup_cons.1 hn
    have ha := hs a (by simp)
    have := ih (m := m.erase a) h2 (fun x hx => (List.mem_erase_of_ne (fun e => h1 (by rw [← e]; exact hx))).2 (hs x (by simp [hx])))
    rw [List.length_erase_of_mem ha] at this
    have := List.length_pos_of_mem ha
    rw [List.length_cons]
    omega
inductive Con (E : List Ed) (vs : List Nat) (v : Nat) : Nat → Prop
  | refl : Con E vs v v
  | step {x y : Nat} : Con E vs v x → has E x y = true → y ∈ vs → Con E vs v y
theorem mem_grow : ∀ (L p : List Nat) (x : Nat), x ∈ grow L p ↔ x ∈ p ∨ x ∈ L
  | [], p, x => by simp [grow]
  | y :: L, p, x => by
    have e : grow (y :: L) p = grow L (if y ∈ p then p else p ++ [y]) := rfl
    rw [e, mem_grow L]
    split
    · next h =>
      simp only [List.mem_cons]
      constructor
      · rintro (h1 | h1)
        · exact .inl h1
        · exact .inr (.inr h1)
      · rintro (h1 | rfl | h1)
        · exact .inl h1
        · exact .inl h
        · exact .inr h1
    · simp only [List.mem_append, List.mem_cons, List.not_mem_nil, or_false]
      exact or_assoc
theorem grow_nd : ∀ (L p : List Nat), p.Nodup → (grow L p).Nodup
  | [], _, h => h
  | y :: L, p, h => by
    have e : grow (y :: L) p = grow L (if y ∈ p then p else p ++ [y]) := rfl
    rw [e]
    refine grow_nd L _ ?_
    split
    · exact h
    · next h1 => exact List.nodup_append.2 ⟨h, List.nodup_cons.2 ⟨by simp, List.nodup_nil⟩, fun a ha b hb => by rw [List.mem_singleton.1 hb]; exact fun e => h1 (e ▸ ha)⟩
theorem grow_pre : ∀ (L p : List Nat), ∃ q, grow L p = p ++ q
  | [], p => ⟨[], by simp [grow]⟩
  | y :: L, p => by
    have e : grow (y :: L) p = grow L (if y ∈ p then p else p ++ [y]) := rfl
    rw [e]
    obtain ⟨q, hq⟩ := grow_pre L (if y ∈ p then p else p ++ [y])
    rw [hq]
    split
    · exact ⟨q, rfl⟩
    · exact ⟨y :: q, by simp⟩
structure BfI (E : List Ed) (vs : List Nat) (v k : Nat) (p : List Nat) : Prop where
  nd : p.Nodup
  sub : ∀ x ∈ p, x ∈ vs
  has : v ∈ p
  con : ∀ x ∈ p, Con E vs v x
  shut : ∀ i (h : i < p.length), i < k → ∀ y ∈ vs, Ge.has E (p[i] : Nat) (y : Nat) = true → y ∈ p
section
variable {E : List Ed} {vs : List Nat} {v k : Nat} {p : List Nat}
theorem BfI.start (hv : v ∈ vs) : BfI E vs v 0 [v] := ⟨List.nodup_cons.2 ⟨by simp, List.nodup_nil⟩, fun x hx => by rw [List.mem_singleton.1 hx]; exact hv, by simp, fun x hx => by rw [List.mem_singleton.1 hx]; exact .refl, fun i _ h => absurd h (by omega)⟩
theorem mem_nbr {L : List Nat} {x y : Nat} : y ∈ nbr E x L ↔ y ∈ L ∧ Ge.has E x y = true := by unfold nbr; rw [List.mem_filter]
theorem BfI.next (h : BfI E vs v k p) (hk : k < p.length) : BfI E vs v (k + 1) (grow (nbr E p[k] vs) p) := by
  obtain ⟨q, hq⟩ := grow_pre (nbr E p[k] vs) p
  refine ⟨grow_nd _ _ h.nd, fun x hx => ?_, (mem_grow _ _ _).2 (.inl h.has), fun x hx => ?_, fun i hi hik y hy hh => ?_⟩
  · rcases (mem_grow _ _ _).1 hx with hx | hx
    · exact h.sub x hx
    · exact (mem_nbr.1 hx).1
  · rcases (mem_grow _ _ _).1 hx with hx | hx
    · exact h.con x hx
    · exact (h.con _ (List.getElem_mem hk)).step (mem_nbr.1 hx).2 (mem_nbr.1 hx).1
  · have hip : i < p.length := by omega
    have e : (grow (nbr E p[k] vs) p)[i] = p[i] := by
      simp only [hq]
      exact List.getElem_append_left hip
    rw [e] at hh
    by_cases e2 : i = k
    · subst e2
      exact (mem_grow _ _ _).2 (.inr (mem_nbr.2 ⟨hy, hh⟩))
    · exact (mem_grow _ _ _).2 (.inl (h.shut i hip (by omega) y hy hh))
theorem BfI.len (h : BfI E vs v k p) : p.length ≤ vs.length := nodup_le h.nd h.sub
theorem bfs_end (f : Nat) (hk : ¬ k < p.length) : bfs E vs f k p = p := by
  cases f with
  | zero => rfl
  | succ f => rw [bfs, dif_neg hk]
theorem bfs_next (f : Nat) (hk : k < p.length) : bfs E vs (f + 1) k p = bfs E vs f (k + 1) (grow (nbr E p[k] vs) p) := by rw [bfs, dif_pos hk]
theorem bfs_inv : ∀ (f k : Nat) (p : List Nat), BfI E vs v k p → vs.length + 1 ≤ k + f → ∃ k', BfI E vs v k' (bfs E vs f k p) ∧ (bfs E vs f k p).length ≤ k'
  | 0, k, p, h, hf => ⟨k, h, by have := h.len; show p.length ≤ k; omega⟩
  | f + 1, k, p, h, hf => by
    by_cases hk : k < p.length
    · rw [bfs_next f hk]
      exact bfs_inv f (k + 1) _ (h.next hk) (by omega)
    · rw [bfs_end _ hk]
      exact ⟨k, h, by omega⟩
theorem prt_mem (hv : v ∈ vs) (x : Nat) : x ∈ prt E vs v ↔ Con E vs v x := by
  obtain ⟨k, h, hk⟩ := bfs_inv (vs.length + 1) 0 [v] (BfI.start (E := E) hv) (by omega)
  refine ⟨fun hx => h.con x hx, fun hx => ?_⟩
  induction hx with
  | refl => exact h.has
  | step h1 h2 h3 ih =>
    obtain ⟨i, hi, rfl⟩ := List.getElem_of_mem ih
    exact h.shut i hi (by unfold prt at hi; omega) _ h3 h2
end
section
variable {n : Nat} {E : List Ed} {R : List Nat}
theorem ER.con (h : ER n E R) {v : Nat} (x : Nat) : Con E (List.range n) v x ↔ Reach R v x := by
  constructor
  · intro hc
    induction hc with
    | refl => exact .refl
    | step h1 h2 h3 ih => exact ih.step (by rw [h.bit]; exact h2)
  · intro hr
    induction hr with
    | refl => exact .refl
    | step h1 h2 ih =>
      refine ih.step (by rw [← h.bit]; exact h2) ?_
      have := h.fit _ _ h2
      rw [List.mem_range, ← h.len]
      exact this
theorem ER.inp (h : ER n E R) {v : Nat} (hv : v < n) : inp (List.range n) (prt E (List.range n) v) = els (rch R v) 0 := by
  have hvR : v < R.length := by rw [h.len]; exact hv
  rw [els_n h.le (fun x hx => by have := ((rch_bit h.ok hvR x).1 hx).lt h.ok hvR; rwa [h.len] at this)]
  unfold Ge.inp
  refine List.filter_congr fun x _ => ?_
  rw [Bool.eq_iff_iff, decide_eq_true_eq, prt_mem (List.mem_range.2 hv), h.con, rch_bit h.ok hvR]
theorem ER.comp (h : ER n E R) : ∀ k, k ≤ n → (compF E (List.range n) (List.range k)).1 = cmpsTo R k ∧ ∀ x, x ∈ (compF E (List.range n) (List.range k)).2 ↔ (uni R (lds R k)).testBit x = true
  | 0, _ => ⟨rfl, fun x => by
      have e : lds R 0 = [] := rfl
      rw [e, uni_bit]
      simp [compF]⟩
  | k + 1, hk => by
    obtain ⟨h1, h2⟩ := h.comp k (by omega)
    have hkR : k < R.length := by rw [h.len]; omega
    have hs := seen_lead h.ok hkR
    rw [List.range_succ, compF_snoc]
    unfold compS
    cases hl : lead R k with
    | false =>
      have hm : k ∈ (compF E (List.range n) (List.range k)).2 := (h2 k).2 (by rw [hs, hl]; rfl)
      rw [if_pos hm, cmpsTo_no hl, lds_no hl]
      exact ⟨h1, h2⟩
    | true =>
      have hm : k ∉ (compF E (List.range n) (List.range k)).2 := fun hm => by have := (h2 k).1 hm; rw [hs, hl] at this; cases this
      rw [if_neg hm, cmpsTo_yes hl, lds_yes hl]
      refine ⟨by rw [h1, h.inp (by omega)], fun x => ?_⟩
      rw [List.mem_append, h2, uni_bit, uni_bit, prt_mem (List.mem_range.2 (by omega)), h.con]
      constructor
      · rintro (⟨u, hu, hb⟩ | hr)
        · exact ⟨u, by simp [hu], hb⟩
        · refine ⟨k, by simp, ?_⟩
          rw [scc_rch h.ok h.sy hkR, rch_bit h.ok hkR]
          exact hr
      · rintro ⟨u, hu, hb⟩
        rcases List.mem_append.1 hu with hu | hu
        · exact .inl ⟨u, hu, hb⟩
        · rw [List.mem_singleton.1 hu, scc_rch h.ok h.sy hkR, rch_bit h.ok hkR] at hb
          exact .inr hb
theorem ER.comps (h : ER n E R) : comps E (List.range n) = cmps R := by
  unfold Ge.comps cmps
  rw [(h.comp n (Nat.le_refl _)).1, h.len]
end
section
variable {n : Nat} {E : List Ed} {R : List Nat}
theorem ER.col (h : ER n E R) {o : List Nat} (hn : o.Nodup) : ∀ k, k ≤ o.length → (colE E o k).2 = (colF R (o.take k)).2
  | 0, _ => rfl
  | k + 1, hk => by
    have ih := h.col hn k (by omega)
    have hkl : k < o.length := by omega
    have hI := CI.all (n := n) (R := R) _ (o.take k) rfl (hn.sublist (List.take_sublist _ _))
    have hnot : o[k] ∉ o.take k := by
      intro hm
      obtain ⟨i, hi, e⟩ := List.getElem_of_mem hm
      rw [List.length_take] at hi
      rw [List.getElem_take] at e
      have := List.pairwise_iff_getElem.1 (List.nodup_iff_pairwise_ne.1 hn) i k (by omega) hkl (by omega)
      exact this e
    rw [colE_next hkl, List.take_succ_eq_append_getElem hkl, colF_snoc]
    unfold colS colR
    dsimp only
    rw [colE_1 E o k (by omega), ih, hI.zero _ hnot]
    congr 2
    apply ext_bit
    intro j
    rw [Bool.eq_iff_iff, used_bit, used_bit]
    constructor
    · rintro ⟨w, hw, e⟩
      obtain ⟨h1, h2⟩ := mem_nbr.1 hw
      rw [← h.bit] at h2
      refine ⟨w, ?_, e⟩
      rw [els_mem (Nat.zero_le _)]
      have := h.fit _ _ h2
      have := h.le
      have := h.len
      refine ⟨Nat.zero_le _, by omega, ?_⟩
      rw [Nat.testBit_and, h2, (hI.bit w).2 h1]; rfl
    · rintro ⟨w, hw, e⟩
      have hb := ((els_mem (Nat.zero_le _)).1 hw).2.2
      rw [Nat.testBit_and, Bool.and_eq_true] at hb
      refine ⟨w, mem_nbr.2 ⟨(hI.bit w).1 hb.2, ?_⟩, e⟩
      rw [← h.bit]; exact hb.1
end
end Ge
end Go.Proofs.YtjoomgojnpcbeaaDoor
end

section
namespace Go.Proofs.YtjoomgojnpcbeaaDoor
namespace Bs
def pc8 (a : Nat) : Nat := a % 2 + a / 2 % 2 + a / 4 % 2 + a / 8 % 2 + a / 16 % 2 + a / 32 % 2 + a / 64 % 2 + a / 128 % 2
theorem pc8_le (a : Nat) : pc8 a ≤ 8 := by unfold pc8; omega
def cto (n m : Nat) : Nat := ((List.range m).filter fun j => n.testBit j).length
theorem cto_succ (n m : Nat) : cto n (m + 1) = cto n m + n / 2 ^ m % 2 := by
  unfold cto
  rw [List.range_succ, List.filter_append, List.length_append]
  congr 1
  have h : n.testBit m = decide (n / 2 ^ m % 2 = 1) := by rw [Nat.testBit_eq_decide_div_mod_eq]
  by_cases hb : n / 2 ^ m % 2 = 1
  · rw [List.filter_cons_of_pos (by rw [h]; simpa using hb), hb]; rfl
  · rw [List.filter_cons_of_neg (by rw [h]; simpa using hb)]
    have : n / 2 ^ m % 2 = 0 := by omega
    rw [this]; rfl
theorem cto_8 (n m : Nat) : cto n (m + 8) = cto n m + pc8 (n / 2 ^ m % 256) := by
  rw [cto_succ, cto_succ, cto_succ, cto_succ, cto_succ, cto_succ, cto_succ, cto_succ]
  have e : ∀ k, n / 2 ^ (m + k) = n / 2 ^ m / 2 ^ k := fun k => by rw [Nat.pow_add, Nat.div_div_eq_div_mul]
  rw [show m + 1 + 1 = m + 2 from rfl, show m + 2 + 1 = m + 3 from rfl, show m + 3 + 1 = m + 4 from rfl, show m + 4 + 1 = m + 5 from rfl, show m + 5 + 1 = m + 6 from rfl, show m + 6 + 1 = m + 7 from rfl, e 1, e 2, e 3, e 4, e 5, e 6, e 7]
  generalize n / 2 ^ m = q
  unfold pc8
  omega
def pc64 (x : Nat) : Nat := pc8 (x % 256) + pc8 (x / 256 % 256) + pc8 (x / 65536 % 256) + pc8 (x / 16777216 % 256) + pc8 (x / 4294967296 % 256) + pc8 (x / 1099511627776 % 256) + pc8 (x / 281474976710656 % 256) + pc8 (x / 72057594037927936 % 256)
theorem cto_64 (n m : Nat) : cto n (m + 64) = cto n m + pc64 (n / 2 ^ m % 18446744073709551616) := by
  have e : ∀ k, n / 2 ^ (m + k) = n / 2 ^ m / 2 ^ k := fun k => by rw [Nat.pow_add, Nat.div_div_eq_div_mul]
  rw [show m + 64 = m + 8 + 8 + 8 + 8 + 8 + 8 + 8 + 8 from rfl, cto_8, cto_8, cto_8, cto_8, cto_8, cto_8, cto_8, cto_8]
  rw [show m + 8 + 8 = m + 16 from rfl, show m + 16 + 8 = m + 24 from rfl, show m + 24 + 8 = m + 32 from rfl, show m + 32 + 8 = m + 40 from rfl, show m + 40 + 8 = m + 48 from rfl, show m + 48 + 8 = m + 56 from rfl, e 8, e 16, e 24, e 32, e 40, e 48, e 56]
  generalize n / 2 ^ m = q
  unfold pc64
  have h0 : q % 18446744073709551616 % 256 = q % 256 := by omega
  have h1 : q % 18446744073709551616 / 256 % 256 = q / 2 ^ 8 % 256 := by omega
  have h2 : q % 18446744073709551616 / 65536 % 256 = q / 2 ^ 16 % 256 := by omega
  have h3 : q % 18446744073709551616 / 16777216 % 256 = q / 2 ^ 24 % 256 := by omega
  have h4 : q % 18446744073709551616 / 4294967296 % 256 = q / 2 ^ 32 % 256 := by omega
  have h5 : q % 18446744073709551616 / 1099511627776 % 256 = q / 2 ^ 40 % 256 := by omega
  have h6 : q % 18446744073709551616 / 281474976710656 % 256 = q / 2 ^ 48 % 256 := by omega
  have h7 : q % 18446744073709551616 / 72057594037927936 % 256 = q / 2 ^ 56 % 256 := by omega
  rw [h0, h1, h2, h3, h4, h5, h6, h7]
  omega
theorem cnt_cto (n : Nat) : cnt n = cto n 512 := by unfold cnt cto; rw [els_filter]
theorem cto_wd (n k : Nat) : cto n (64 * (k + 1)) = cto n (64 * k) + pc64 (wd n k) := by
  rw [show 64 * (k + 1) = 64 * k + 64 by omega, cto_64]; rfl
theorem and_byte (a b c d : Nat) (ha : a < 256) (hc : c < 256) : (a + 256 * b) &&& (c + 256 * d) = (a &&& c) + 256 * (b &&& d) := by
  have h1 : ((a + 256 * b) &&& (c + 256 * d)) % 2 ^ 8 = (a &&& c) := by
    rw [Nat.and_mod_two_pow]
    congr 1 <;> omega
  have h2 : ((a + 256 * b) &&& (c + 256 * d)) / 2 ^ 8 = (b &&& d) := by
    rw [Nat.and_div_two_pow]
    congr 1 <;> omega
  have h3 : (a &&& c) < 256 := Nat.lt_of_le_of_lt Nat.and_le_left ha
  omega
def rep (c : Nat) : Nat → Nat
  | 0 => 0
  | k + 1 => c + 256 * rep c k
theorem rep_succ (c k : Nat) : rep c (k + 1) = c + 256 * rep c k := rfl
def p1 (a : Nat) : Nat := (a / 2 &&& 85) + (a &&& 85)
def p2 (a : Nat) : Nat := (a / 4 &&& 51) + (a &&& 51)
def q1 (k x : Nat) : Nat := (x / 2 &&& rep 85 k) + (x &&& rep 85 k)
def q2 (k x : Nat) : Nat := (x / 4 &&& rep 51 k) + (x &&& rep 51 k)
def q3 (k x : Nat) : Nat := (x / 16 + x) &&& rep 15 k
theorem d1 : ∀ a, a < 256 → ∀ t, t < 2 → (a / 2 + 128 * t) &&& 85 = a / 2 &&& 85 := by decide +kernel
theorem d2 : ∀ a, a < 256 → ∀ t, t < 4 → (a / 4 + 64 * t) &&& 51 = a / 4 &&& 51 := by decide +kernel
theorem p1_le : ∀ a, a < 256 → p1 a < 256 := by decide +kernel
theorem q1_byte (k a b : Nat) (ha : a < 256) : q1 (k + 1) (a + 256 * b) = p1 a + 256 * q1 k b := by
  unfold q1 p1
  rw [rep_succ]
  have e : (a + 256 * b) / 2 = (a / 2 + 128 * (b % 2)) + 256 * (b / 2) := by omega
  rw [e, and_byte _ _ _ _ (by omega) (by omega), and_byte _ _ _ _ ha (by omega), d1 a ha _ (by omega), Nat.mul_add]
  ac_rfl
theorem q2_byte (k a b : Nat) (ha : a < 256) : q2 (k + 1) (a + 256 * b) = p2 a + 256 * q2 k b := by
  unfold q2 p2
  rw [rep_succ]
  have e : (a + 256 * b) / 4 = (a / 4 + 64 * (b % 4)) + 256 * (b / 4) := by omega
  rw [e, and_byte _ _ _ _ (by omega) (by omega), and_byte _ _ _ _ ha (by omega), d2 a ha _ (by omega), Nat.mul_add]
  ac_rfl
theorem p12 : ∀ a, a < 256 → p2 (p1 a) < 256 ∧ p2 (p1 a) ≤ 68 ∧ p2 (p1 a) % 16 ≤ 4 ∧ (p2 (p1 a) / 16 + p2 (p1 a)) % 16 = pc8 a := by decide +kernel
theorem and15 (a : Nat) : a &&& 15 = a % 16 := Nat.and_two_pow_sub_one_eq_mod a 4
theorem q3_byte (k a b : Nat) (ha : a ≤ 68) (hb : b % 16 ≤ 4) : q3 (k + 1) (a + 256 * b) = (a / 16 + a) % 16 + 256 * q3 k b := by
  unfold q3
  rw [rep_succ]
  have e : (a + 256 * b) / 16 + (a + 256 * b) = (a / 16 + a + 16 * (b % 16)) + 256 * (b / 16 + b) := by omega
  rw [e, and_byte _ _ _ _ (by omega) (by omega), and15]
  have e2 : (a / 16 + a + 16 * (b % 16)) % 16 = (a / 16 + a) % 16 := by omega
  rw [e2]
def cat : List Nat → Nat
  | [] => 0
  | a :: l => a + 256 * cat l
theorem q_cat : ∀ l : List Nat, (∀ a ∈ l, a < 256) → q2 l.length (q1 l.length (cat l)) = cat (l.map fun a => p2 (p1 a))
  | [], _ => by simp [cat, q1, q2, rep]
  | a :: l, h => by
    have ha := h a (by simp)
    rw [List.length_cons, cat, q1_byte _ _ _ ha, q2_byte _ _ _ (p1_le a ha), q_cat l (fun x hx => h x (by simp [hx]))]
    rfl
theorem cat_mod : ∀ l : List Nat, (∀ a ∈ l, a < 256) → cat (l.map fun a => p2 (p1 a)) % 16 ≤ 4
  | [], _ => by simp [cat]
  | a :: l, h => by
    have := p12 a (h a (by simp))
    rw [List.map_cons, cat]
    omega
theorem q3_cat : ∀ l : List Nat, (∀ a ∈ l, a < 256) → q3 l.length (cat (l.map fun a => p2 (p1 a))) = cat (l.map pc8)
  | [], _ => by simp [cat, q3, rep]
  | a :: l, h => by
    have ha := p12 a (h a (by simp))
    have hl : ∀ x ∈ l, x < 256 := fun x hx => h x (by simp [hx])
    rw [List.length_cons, List.map_cons, cat, q3_byte _ _ _ ha.2.1 (cat_mod l hl), ha.2.2.2, q3_cat l hl]
    rfl
theorem sum_bytes (c0 c1 c2 c3 c4 c5 c6 c7 : Nat) (h0 : c0 ≤ 8) (h1 : c1 ≤ 8) (h2 : c2 ≤ 8) (h3 : c3 ≤ 8) (h4 : c4 ≤ 8) (h5 : c5 ≤ 8) (h6 : c6 ≤ 8) (h7 : c7 ≤ 8) (y u v w : Nat) (hy : y = cat [c0, c1, c2, c3, c4, c5, c6, c7]) (hu : u = y + y / 256) (hv : v = u + u / 65536) (hw : w = v + v / 4294967296) :
    w % 128 = c0 + c1 + c2 + c3 + c4 + c5 + c6 + c7 ∧ w < 9223372036854775808 ∧ u < 9223372036854775808 ∧ v < 9223372036854775808 := by
  obtain ⟨y7, e7⟩ : ∃ y7, y7 = c7 := ⟨_, rfl⟩
  obtain ⟨y6, e6⟩ : ∃ y6, y6 = c6 + 256 * y7 := ⟨_, rfl⟩
  obtain ⟨y5, e5⟩ : ∃ y5, y5 = c5 + 256 * y6 := ⟨_, rfl⟩
  obtain ⟨y4, e4⟩ : ∃ y4, y4 = c4 + 256 * y5 := ⟨_, rfl⟩
  obtain ⟨y3, e3⟩ : ∃ y3, y3 = c3 + 256 * y4 := ⟨_, rfl⟩
  obtain ⟨y2, e2⟩ : ∃ y2, y2 = c2 + 256 * y3 := ⟨_, rfl⟩
  obtain ⟨y1, e1⟩ : ∃ y1, y1 = c1 + 256 * y2 := ⟨_, rfl⟩
  have e0 : y = c0 + 256 * y1 := by rw [hy, e1, e2, e3, e4, e5, e6, e7]; simp only [cat, Nat.mul_zero, Nat.add_zero]
  clear hy
  have f1 : y / 256 = y1 := by omega
  rw [f1] at hu
  have f2 : u / 65536 = y2 + y3 := by clear hv hw f1 e3 e4 e5 e6 e7 h3 h4 h5 h6 h7; omega
  rw [f2] at hv
  have f3 : v / 4294967296 = y4 + y5 + y6 + y7 := by clear hw f1 f2 e7 h7; omega
  rw [f3] at hw
  have g6 : y6 ≤ 2056 := by omega
  have g5 : y5 ≤ 526344 := by omega
  have g4 : y4 ≤ 134744072 := by omega
  have g3 : y3 ≤ 34494482440 := by omega
  have g2 : y2 ≤ 8830587504648 := by omega
  have g1 : y1 ≤ 2260630401189896 := by omega
  have g0 : y ≤ 578721382704613384 := by omega
  have hw2 : w = y + y1 + y2 + y3 + y4 + y5 + y6 + y7 := by omega
  have hm : ∃ q, w = c0 + c1 + c2 + c3 + c4 + c5 + c6 + c7 + 256 * q := ⟨y1 + y2 + y3 + y4 + y5 + y6 + y7, by omega⟩
  obtain ⟨q, hq⟩ := hm
  refine ⟨by clear hw2 e0 e1 e2 e3 e4 e5 e6 e7 hu hv hw f1 f2 f3; omega, by clear hq; omega, by clear hq; omega, by clear hq; omega⟩
end Bs
end Go.Proofs.YtjoomgojnpcbeaaDoor
end

section
namespace Go.Proofs.YtjoomgojnpcbeaaDoor
namespace Gh
open Bs Dg
structure DI (s : Bk) : Prop where
  don : ∀ b ∈ s.blocks, ∃ u, ∀ x ∈ b, x = u ∨ (0 < s.ent x ∧ x ∉ s.stack)
  nd : s.blocks.Nodup
  len : ∀ b ∈ s.blocks, b.length ≤ 512
theorem DI.enter {v : Nat} {s : Bk} (h : DI s) (h0 : s.ent v = 0) : DI (enter v s) where
  don := fun b hb => by
    obtain ⟨u, hu⟩ := h.don b hb
    refine ⟨u, fun x hx => ?_⟩
    rcases hu x hx with h1 | ⟨h1, h2⟩
    · exact .inl h1
    · have hne : x ≠ v := fun e => by subst e; omega
      refine .inr ⟨?_, ?_⟩
      · show 0 < upd s.ent v (s.time + 1) x
        unfold upd
        rw [if_neg hne]
        exact h1
      · show x ∉ s.stack ++ [v]
        rw [List.mem_append, List.mem_singleton]
        rintro (h3 | h3)
        · exact h2 h3
        · exact hne h3
  nd := h.nd
  len := h.len
theorem DI.setlow {v x : Nat} {s : Bk} (h : DI s) : DI (setlow v x s) := ⟨h.don, h.nd, h.len⟩
theorem DI.cut {n v w : Nat} {s : Bk} (h : DI s) (bi : BI n s) (hn : n ≤ 512) (hv : v < n) (hvs : v ∈ s.stack) (hw : w ∈ s.stack) (hne : v ≠ w) : DI (cut v w s) := by
  have hmem : ∀ x ∈ v :: popd w s, x < 512 := fun x hx => by
    rcases List.mem_cons.1 hx with e | hx
    · omega
    · have := (bi.mem x (List.mem_of_mem_drop hx)).1
      omega
  have hk := List.idxOf_lt_length_of_mem hw
  have hwp : w ∈ popd w s := by
    unfold popd
    rw [List.drop_eq_getElem_cons hk, List.getElem_idxOf hk]
    simp
  have hsub : ∀ x, x ∈ (Gh.cut v w s).stack → x ∈ s.stack := fun x hx => List.mem_of_mem_take hx
  refine ⟨fun b hb => ?_, ?_, fun b hb => ?_⟩
  rotate_left 2
  · have hb : b ∈ s.blocks ++ [srt (v :: popd w s)] := hb
    rcases List.mem_append.1 hb with hb | hb
    · exact h.len b hb
    · rw [List.mem_singleton.1 hb]; exact els_len _ _
  · have hb : b ∈ s.blocks ++ [srt (v :: popd w s)] := hb
    rcases List.mem_append.1 hb with hb | hb
    · obtain ⟨u, hu⟩ := h.don b hb
      exact ⟨u, fun x hx => (hu x hx).imp id fun ⟨h1, h2⟩ => ⟨h1, fun h3 => h2 (hsub x h3)⟩⟩
    · obtain rfl := List.mem_singleton.1 hb
      refine ⟨v, fun x hx => ?_⟩
      rcases List.mem_cons.1 ((srt_mem hmem).1 hx) with e | hx
      · exact .inl e
      · refine .inr ⟨(bi.mem x (List.mem_of_mem_drop hx)).2, fun h3 => ?_⟩
        have hnd := bi.nd
        rw [← List.take_append_drop (s.stack.idxOf w) s.stack, List.nodup_append] at hnd
        exact hnd.2.2 x h3 x hx rfl
  · show (s.blocks ++ [srt (v :: popd w s)]).Nodup
    rw [List.nodup_append]
    refine ⟨h.nd, by simp, fun b hb b' hb' e => ?_⟩
    obtain rfl := List.mem_singleton.1 hb'
    subst e
    obtain ⟨u, hu⟩ := h.don _ hb
    have h1 := hu v ((srt_mem hmem).2 (by simp))
    have h2 := hu w ((srt_mem hmem).2 (by simp [hwp]))
    rcases h1 with h1 | ⟨-, h1⟩
    · rcases h2 with h2 | ⟨-, h2⟩
      · exact hne (h1.trans h2.symm)
      · exact h2 hw
    · exact h1 hvs
theorem fin_di {n v w : Nat} {s s1 s2 : Bk} (hn : n ≤ 512) (hv : v < n) (h : VI n s s1 v) (hw : VI n s1 s2 w) (d : DI s2) : DI (fin v w s2) := by
  obtain ⟨rest, hr⟩ := h.stk
  obtain ⟨rest2, hr2⟩ := hw.stk
  have hl : BI n (setlow v (min (s2.low v) (s2.low w)) s2) := hw.bi.setlow (by have := hw.bi.low v; omega)
  unfold fin
  dsimp only
  split
  · exact d.setlow
  · have hwm : w ∈ s2.stack := by rw [hr2]; simp
    have hvm : v ∈ s1.stack := by rw [hr]; simp
    have hvm2 : v ∈ s2.stack := by rw [hr2]; simp [hvm]
    refine d.setlow.cut hl hn hv hvm2 hwm (fun e => ?_)
    have := hw.bi.nd
    rw [hr2, List.nodup_append] at this
    exact this.2.2 v hvm w (by simp) e
theorem fold_di {n v : Nat} {p : Int} {s : Bk} {vis : Nat → Int → Bk → Bk} {f : Nat} (hn : n ≤ 512) (hv : v < n) (hvis : ∀ w s1, w < n → BI n s1 → s1.ent w = 0 → left n s1 ≤ f → VI n s1 (vis w v s1) w) (hd : ∀ w s1, w < n → BI n s1 → s1.ent w = 0 → left n s1 ≤ f → DI s1 → DI (vis w v s1)) :
    ∀ (l : List Nat) (s1 : Bk), (∀ w ∈ l, w < n) → left n s1 ≤ f → VI n s s1 v → DI s1 → DI (l.foldl (stepB vis v p) s1)
  | [], _, _, _, _, d => d
  | w :: l, s1, hl, hf, h, d => by
    have hw := hl w (by simp)
    have h1 := fold_vi (p := p) hvis [w] s1 (fun x hx => by rw [List.mem_singleton.1 hx]; exact hw) hf h
    rw [List.foldl_cons, List.foldl_nil] at h1
    rw [List.foldl_cons]
    refine fold_di hn hv hvis hd l _ (fun x hx => hl x (by simp [hx])) h1.2 h1.1 ?_
    unfold stepB
    split
    · exact d
    · split
      · exact d.setlow
      · rename_i h3
        exact fin_di hn hv h (hvis w s1 hw h.bi (by omega) hf) (hd w s1 hw h.bi (by omega) hf d)
theorem visit_di {R : List Nat} {n : Nat} (hR : ∀ v w, (row R v).testBit w = true → w < n) (hn : n ≤ 512) : ∀ (f v : Nat) (p : Int) (s : Bk), v < n → BI n s → s.ent v = 0 → left n s ≤ f → DI s → DI (visit R f v p s)
  | 0, _, _, _, _, _, _, _, d => d
  | f + 1, v, p, s, hv, h, h0, hf, d => by
    have h1 := left_enter hv h0
    refine fold_di (f := f) hn hv (fun w s1 hw hb h0' hf' => visit_vi hR hn f w v s1 hw hb h0' hf') (fun w s1 hw hb h0' hf' => visit_di hR hn f w v s1 hw hb h0' hf') _ _ (fun w hw => hR v w ?_) (by omega) (VI.enter h hv h0) (d.enter h0)
    rw [mem_els (fun i hi => by cases hc : (row R v).testBit i with | false => rfl | true => have := hR v i hc; omega)] at hw
    exact hw
theorem upto_ok {R : List Nat} (hR : ∀ v w, (row R v).testBit w = true → w < R.length) (hn : R.length ≤ 512) : ∀ k, k ≤ R.length → BI R.length (upto R k) ∧ DI (upto R k) ∧ (upto R k).stack = []
  | 0, _ => ⟨BI.start _, ⟨fun b hb => absurd hb (by simp [upto, start]), List.nodup_nil, fun b hb => absurd hb (by simp [upto, start])⟩, rfl⟩
  | k + 1, hk => by
    obtain ⟨h1, h2, h3⟩ := upto_ok hR hn k (by omega)
    unfold upto
    dsimp only
    split
    · rename_i h0
      have hl : left R.length (upto R k) ≤ R.length := by have := h1.ct; omega
      have vi := visit_vi hR hn R.length k (-1) _ (by omega) h1 h0 hl
      have d := visit_di hR hn R.length k (-1) _ (by omega) h1 h0 hl h2
      refine ⟨⟨List.nodup_nil, fun x hx => absurd hx (by simp), vi.bi.ent, vi.bi.low, vi.bi.sh, ?_, vi.bi.ct⟩, ⟨fun b hb => ?_, d.nd, d.len⟩, rfl⟩
      · have := vi.bi.cb
        simp only [List.length_nil]
        omega
      · obtain ⟨u, hu⟩ := d.don b hb
        exact ⟨u, fun x hx => (hu x hx).imp id fun ⟨h4, _⟩ => ⟨h4, by simp⟩⟩
    · exact ⟨h1, h2, h3⟩
def lexC : List Int → List Int → Int
  | [], [] => 0
  | [], _ :: _ => -1
  | _ :: _, [] => 1
  | a :: as, b :: bs => if a < b then -1 else if b < a then 1 else lexC as bs
theorem lexC_refl : ∀ a : List Int, lexC a a = 0
  | [] => rfl
  | a :: as => by unfold lexC; rw [if_neg (by omega), if_neg (by omega)]; exact lexC_refl as
theorem lexC_zero : ∀ {a b : List Int}, lexC a b = 0 → a = b
  | [], [], _ => rfl
  | [], _ :: _, h => by simp [lexC] at h
  | _ :: _, [], h => by simp [lexC] at h
  | a :: as, b :: bs, h => by
    unfold lexC at h
    split at h
    · omega
    · split at h
      · omega
      · rw [lexC_zero h, show a = b by omega]
theorem lexC_trans : ∀ {a b c : List Int}, lexC a b < 0 → lexC b c < 0 → lexC a c < 0
  | [], [], _, h, _ => by simp [lexC] at h
  | [], _ :: _, [], _, h => by simp [lexC] at h
  | [], _ :: _, _ :: _, _, _ => by simp [lexC]
  | _ :: _, [], _, h, _ => by simp [lexC] at h
  | _ :: _, _ :: _, [], _, h => by simp [lexC] at h
  | a :: as, b :: bs, c :: cs, h1, h2 => by
    unfold lexC at h1 h2 ⊢
    split at h1
    · split at h2
      · rw [if_pos (by omega)]; omega
      · split at h2
        · omega
        · rw [if_pos (by omega)]; omega
    · split at h1
      · omega
      · split at h2
        · rw [if_pos (by omega)]; omega
        · split at h2
          · omega
          · rw [if_neg (by omega), if_neg (by omega)]
            exact lexC_trans h1 h2
theorem lexC_swap : ∀ (a b : List Int), lexC b a = - lexC a b
  | [], [] => rfl
  | [], _ :: _ => rfl
  | _ :: _, [] => rfl
  | a :: as, b :: bs => by
    unfold lexC
    by_cases h1 : a < b
    · rw [if_pos h1, if_neg (by omega), if_pos h1]; rfl
    · by_cases h2 : b < a
      · rw [if_pos h2, if_neg h1, if_pos h2]
      · rw [if_neg h2, if_neg h1, if_neg h1, if_neg h2]
        exact lexC_swap as bs
theorem lexC_le_trans {a b c : List Int} (h1 : lexC a b ≤ 0) (h2 : lexC b c ≤ 0) : lexC a c ≤ 0 := by
  rcases Int.lt_or_le (lexC a b) 0 with h3 | h3
  · rcases Int.lt_or_le (lexC b c) 0 with h4 | h4
    · have := lexC_trans h3 h4; omega
    · rw [← lexC_zero (show lexC b c = 0 by omega)]; omega
  · rw [lexC_zero (show lexC a b = 0 by omega)]; exact h2
def nz (l : List Nat) : List Int := l.map fun (x : Nat) => (x : Int)
def ins (a : List Nat) : List (List Nat) → List (List Nat)
  | [] => [a]
  | b :: l => if lexC (nz a) (nz b) ≤ 0 then a :: b :: l else b :: ins a l
def isort : List (List Nat) → List (List Nat)
  | [] => []
  | a :: l => ins a (isort l)
theorem ins_perm (a : List Nat) : ∀ l, (ins a l).Perm (a :: l)
  | [] => .refl _
  | b :: l => by
    unfold ins
    split
    · exact .refl _
    · exact ((ins_perm a l).cons b).trans (.swap a b l)
theorem isort_perm : ∀ l, (isort l).Perm l
  | [] => .refl _
  | a :: l => (ins_perm a (isort l)).trans ((isort_perm l).cons a)
def leL (a b : List Nat) : Prop := lexC (nz a) (nz b) ≤ 0
theorem leL_trans {a b c : List Nat} (h1 : leL a b) (h2 : leL b c) : leL a c := lexC_le_trans h1 h2
theorem ins_sorted (a : List Nat) : ∀ l, l.Pairwise leL → (ins a l).Pairwise leL
  | [], _ => List.pairwise_singleton _ _
  | b :: l, h => by
    rw [List.pairwise_cons] at h
    unfold ins
    split
    · rename_i h1
      rw [List.pairwise_cons, List.pairwise_cons]
      exact ⟨fun c hc => by
        rcases List.mem_cons.1 hc with e | hc
        · rw [e]; exact h1
        · exact leL_trans h1 (h.1 c hc), h⟩
    · rename_i h1
      rw [List.pairwise_cons]
      refine ⟨fun c hc => ?_, ins_sorted a l h.2⟩
      rcases List.mem_cons.1 ((ins_perm a l).mem_iff.1 hc) with e | hc
      · rw [e]
        show lexC _ _ ≤ 0
        rw [lexC_swap]
        omega
      · exact h.1 c hc
theorem isort_sorted : ∀ l, (isort l).Pairwise leL
  | [] => List.Pairwise.nil
  | a :: l => ins_sorted a _ (isort_sorted l)
theorem map_inj {a b : List Nat} (h : nz a = nz b) : a = b := by
  have h2 := congrArg (List.map Int.toNat) h
  simpa [nz, List.map_map, Function.comp_def] using h2
def blks (R : List Nat) : List (List Nat) := isort (found R).blocks
def cuts (R : List Nat) : List Nat := (List.range R.length).filter fun v => decide (1 < (found R).sh v)
end Gh
end Go.Proofs.YtjoomgojnpcbeaaDoor
end
