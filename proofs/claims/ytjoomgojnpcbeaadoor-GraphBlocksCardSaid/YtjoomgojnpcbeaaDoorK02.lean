/- A bundle of texts: GhK0, GeM, GeL, BsPop, GhD, GeB. -/
import Derived.Test.YtjoomgojnpcbeaaDoorK01
section
namespace Go.Proofs.YtjoomgojnpcbeaaDoor
open Gh
set_option maxRecDepth 100000
namespace Gh
def mexF (u : Nat) : Nat → Nat → Nat
  | 0, k => k
  | f + 1, k => if u.testBit k = true then mexF u f (k + 1) else k
def usedF (f : Nat → Nat) (L : List Nat) : Nat := L.foldl (fun u w => u ||| 2 ^ f w) 0
def colR (R : List Nat) (st : Nat × (Nat → Nat)) (v : Nat) : Nat × (Nat → Nat) :=
  (st.1 ||| 2 ^ v, upd st.2 v (mexF (usedF st.2 (Bs.els (Dg.row R v &&& st.1) 0)) 512 (st.2 v)))
def colF (R : List Nat) (o : List Nat) : Nat × (Nat → Nat) := o.foldl (colR R) (0, fun _ => 0)
theorem colF_snoc (R o : List Nat) (v : Nat) : colF R (o ++ [v]) = colR R (colF R o) v := by unfold colF; rw [List.foldl_append]; rfl
theorem mexF_le {u m : Nat} (hu : ∀ k, u.testBit k = true → k < m) : ∀ f k, k ≤ m → mexF u f k ≤ m
  | 0, k, hk => hk
  | f + 1, k, hk => by
    unfold mexF
    split
    · next h => exact mexF_le hu f (k + 1) (hu k h)
    · exact hk
theorem mexF_step {u k : Nat} (f : Nat) (h : u.testBit k = true) : mexF u (f + 1) k = mexF u f (k + 1) := by rw [mexF, if_pos h]
theorem mexF_end {u k : Nat} (f : Nat) (h : u.testBit k = false) : mexF u f k = k := by
  cases f with
  | zero => rfl
  | succ f => rw [mexF, if_neg (by rw [h]; decide)]
theorem mexF_fuel {u m : Nat} (hu : ∀ k, u.testBit k = true → k < m) : ∀ f g k, m ≤ k + f → m ≤ k + g → mexF u f k = mexF u g k
  | 0, g, k, hf, _ => by
    have h : u.testBit k = false := by
      cases e : u.testBit k with
      | false => rfl
      | true => have := hu k e; omega
    rw [mexF_end _ h, mexF_end _ h]
  | f + 1, 0, k, _, hg => by
    have h : u.testBit k = false := by
      cases e : u.testBit k with
      | false => rfl
      | true => have := hu k e; omega
    rw [mexF_end _ h, mexF_end _ h]
  | f + 1, g + 1, k, hf, hg => by
    cases e : u.testBit k with
    | false => rw [mexF_end _ e, mexF_end _ e]
    | true => rw [mexF_step f e, mexF_step g e]; exact mexF_fuel hu f g (k + 1) (by omega) (by omega)
theorem used_snoc (f : Nat → Nat) (L : List Nat) (w : Nat) : usedF f (L ++ [w]) = usedF f L ||| 2 ^ f w := by unfold usedF; rw [List.foldl_append]; rfl
theorem usedA_bit (f : Nat → Nat) : ∀ (L : List Nat) (a k : Nat), (L.foldl (fun u w => u ||| 2 ^ f w) a).testBit k = true ↔ a.testBit k = true ∨ ∃ w ∈ L, f w = k
  | [], a, k => by simp
  | w :: L, a, k => by
    rw [List.foldl_cons, usedA_bit f L _ k, Nat.testBit_or, Nat.testBit_two_pow]
    simp only [Bool.or_eq_true, decide_eq_true_eq, List.mem_cons, exists_eq_or_imp]
    exact or_assoc
theorem used_bit {f : Nat → Nat} {L : List Nat} {k : Nat} : (usedF f L).testBit k = true ↔ ∃ w ∈ L, f w = k := by
  unfold usedF; rw [usedA_bit]; simp
structure CI (n : Nat) (R : List Nat) (o : List Nat) : Prop where
  bit : ∀ x, (colF R o).1.testBit x = true ↔ x ∈ o
  lt : ∀ x ∈ o, (colF R o).2 x < o.length
  zero : ∀ x, x ∉ o → (colF R o).2 x = 0
theorem CI.nil (n : Nat) (R : List Nat) : CI n R [] := ⟨by simp [colF], by simp, fun _ _ => rfl⟩
theorem CI.used {n : Nat} {R o : List Nat} (h : CI n R o) (s : Nat) : ∀ k, (usedF (colF R o).2 (Bs.els (s &&& (colF R o).1) 0)).testBit k = true → k < o.length := by
  intro k hk
  obtain ⟨w, hw, rfl⟩ := used_bit.1 hk
  have hb := ((Bs.els_mem (Nat.zero_le _)).1 hw).2.2
  rw [Nat.testBit_and, Bool.and_eq_true] at hb
  exact h.lt w ((h.bit w).1 hb.2)
theorem CI.snoc {n : Nat} {R o : List Nat} {v : Nat} (h : CI n R o) (hv : v ∉ o) : CI n R (o ++ [v]) := by
  refine ⟨fun x => ?_, fun x hx => ?_, fun x hx => ?_⟩
  · rw [colF_snoc]; unfold colR; dsimp only
    rw [Nat.testBit_or, Nat.testBit_two_pow, Bool.or_eq_true, h.bit, List.mem_append, List.mem_singleton, decide_eq_true_eq]
    exact or_congr Iff.rfl eq_comm
  · rw [colF_snoc, List.length_append, List.length_singleton]; unfold colR; dsimp only
    by_cases e : x = v
    · subst e
      have := mexF_le (h.used (Dg.row R x)) 512 ((colF R o).2 x) (by rw [h.zero x hv]; omega)
      rw [upd, if_pos rfl]; omega
    · rw [upd, if_neg e]
      rcases List.mem_append.1 hx with hx | hx
      · have := h.lt x hx; omega
      · exact absurd (List.mem_singleton.1 hx) e
  · rw [colF_snoc]; unfold colR; dsimp only
    rw [List.mem_append, not_or] at hx
    rw [upd, if_neg (fun e => hx.2 (by simp [e]))]
    exact h.zero x hx.1
theorem CI.all {n : Nat} {R : List Nat} : ∀ k (o : List Nat), o.length = k → o.Nodup → CI n R o
  | 0, o, hk, _ => by rw [List.length_eq_zero_iff.1 hk]; exact CI.nil n R
  | k + 1, o, hk, hn => by
    have hne : o ≠ [] := by intro e; rw [e] at hk; simp at hk
    rw [← List.dropLast_concat_getLast hne] at hn ⊢
    obtain ⟨h1, -, h2⟩ := List.nodup_append.1 hn
    exact (CI.all k _ (by rw [List.length_dropLast, hk]; rfl) h1).snoc (fun hv => h2 _ hv _ (by simp) rfl)
def okO (n : Nat) : Nat → List Int → Bool
  | _, [] => true
  | all, v :: o => if 0 ≤ v ∧ v < (n : Int) ∧ all.testBit v.toNat = false then okO n (all ||| 2 ^ v.toNat) o else false
end Gh
end Go.Proofs.YtjoomgojnpcbeaaDoor
end

section
namespace Go.Proofs.YtjoomgojnpcbeaaDoor
namespace Ge
open Bs Dg Gh
abbrev Ed := Nat × Nat
def hit (a b : Int) (e : Ed) : Bool := (decide ((e.1 : Int) = a) && decide ((e.2 : Int) = b)) || (decide ((e.1 : Int) = b) && decide ((e.2 : Int) = a))
def has (E : List Ed) (a b : Int) : Bool := E.any (hit a b)
theorem hit_comm (a b : Int) (e : Ed) : hit a b e = hit b a e := Bool.or_comm _ _
theorem has_comm (E : List Ed) (a b : Int) : has E a b = has E b a := by
  unfold has; congr 1; funext e; exact hit_comm a b e
theorem has_snoc (E : List Ed) (e : Ed) (a b : Int) : has (E ++ [e]) a b = (has E a b || hit a b e) := by unfold has; rw [List.any_append]; simp
def badA (n : Nat) (a b : Int) : Bool := decide (a < 0) || decide ((n : Int) ≤ a) || decide (b < 0) || decide ((n : Int) ≤ b) || decide (a = b)
def add (n : Nat) (E : List Ed) (a b : Int) : List Ed × Int := if badA n a b = true then (E, 2) else if has E a b = true then (E, 11) else (E ++ [(a.toNat, b.toNat)], 0)
theorem badA_no {n : Nat} {a b : Int} (h : badA n a b = false) : ∃ x y : Nat, a = x ∧ b = y ∧ x < n ∧ y < n ∧ x ≠ y := by
  unfold badA at h
  simp only [Bool.or_eq_false_iff, decide_eq_false_iff_not] at h
  exact ⟨a.toNat, b.toNat, by omega, by omega, by omega, by omega, by omega⟩
structure ER (n : Nat) (E : List Ed) (R : List Nat) : Prop where
  len : R.length = n
  le : n ≤ 512
  lt : ∀ e ∈ E, e.1 < n ∧ e.2 < n ∧ e.1 ≠ e.2
  bit : ∀ a b : Nat, (row R a).testBit b = has E a b
theorem has_lt {E : List Ed} {n : Nat} (h : ∀ e ∈ E, e.1 < n ∧ e.2 < n ∧ e.1 ≠ e.2) {a b : Int} (hh : has E a b = true) : ∃ x y : Nat, a = x ∧ b = y ∧ x < n ∧ y < n ∧ x ≠ y := by
  unfold has at hh
  obtain ⟨e, he, hb⟩ := List.any_eq_true.1 hh
  have := h e he
  unfold hit at hb
  simp only [Bool.or_eq_true, Bool.and_eq_true, decide_eq_true_eq] at hb
  rcases hb with ⟨h1, h2⟩ | ⟨h1, h2⟩
  · exact ⟨e.1, e.2, h1.symm, h2.symm, by omega⟩
  · exact ⟨e.2, e.1, h2.symm, h1.symm, by omega⟩
section
variable {n : Nat} {E : List Ed} {R : List Nat}
theorem ER.sym (h : ER n E R) (a b : Nat) : (row R a).testBit b = (row R b).testBit a := by rw [h.bit, h.bit, has_comm]
theorem ER.sy (h : ER n E R) : ∀ a b, (row R a).testBit b = true → (row R b).testBit a = true := fun a b hh => by rw [h.sym]; exact hh
theorem ER.fit (h : ER n E R) : ∀ v x, (row R v).testBit x = true → x < R.length := fun v x hx => by
  rw [h.bit] at hx
  obtain ⟨a, b, h1, h2, h3, h4, -⟩ := has_lt h.lt hx
  have := h.len
  omega
theorem ER.ok (h : ER n E R) : Ok R := ⟨by rw [h.len]; exact h.le, fun v x hx => h.fit v x hx⟩
theorem ER.loop (h : ER n E R) (v : Nat) : (row R v).testBit v = false := by
  rw [h.bit]
  cases hc : has E v v with
  | false => rfl
  | true => obtain ⟨a, b, h1, h2, h3, h4, h5⟩ := has_lt h.lt hc; omega
theorem row_rep (n v : Nat) : row (List.replicate n 0) v = 0 := by
  unfold row
  rw [List.getD_eq_getElem?_getD, List.getElem?_replicate]
  split <;> rfl
theorem ER.nil (hn : n ≤ 512) : ER n [] (List.replicate n 0) := ⟨by simp, hn, by simp, fun a b => by rw [row_rep]; simp [has]⟩
theorem rset_ne {R : List Nat} {a b : Nat} (h : a ≠ b) (x : Nat) : row (R.set a x) b = row R b := by
  unfold row
  rw [List.getD_eq_getElem?_getD, List.getD_eq_getElem?_getD, List.getElem?_set_ne h]
theorem rset_eq {R : List Nat} {a : Nat} (h : a < R.length) (x : Nat) : row (R.set a x) a = x := by
  unfold row
  rw [List.getD_eq_getElem?_getD, List.getElem?_set_self h]
  rfl
theorem pow_bit (a j : Nat) : (2 ^ a).testBit j = decide (a = j) := by rw [Nat.testBit_two_pow]
theorem ER.push (h : ER n E R) {a b : Nat} (ha : a < n) (hb : b < n) (hab : a ≠ b) : ER n (E ++ [(a, b)]) ((R.set a (row R a ||| 2 ^ b)).set b (row R b ||| 2 ^ a)) := by
  have hl := h.len
  refine ⟨by simp [hl], h.le, fun e he => ?_, fun x y => ?_⟩
  · rcases List.mem_append.1 he with he | he
    · exact h.lt e he
    · rw [List.mem_singleton.1 he]; exact ⟨ha, hb, hab⟩
  · rw [has_snoc]
    unfold hit
    dsimp only
    have c1 : decide ((a : Int) = (x : Int)) = decide (a = x) := by rw [decide_eq_decide]; omega
    have c2 : decide ((b : Int) = (y : Int)) = decide (b = y) := by rw [decide_eq_decide]; omega
    have c3 : decide ((a : Int) = (y : Int)) = decide (a = y) := by rw [decide_eq_decide]; omega
    have c4 : decide ((b : Int) = (x : Int)) = decide (b = x) := by rw [decide_eq_decide]; omega
    rw [c1, c2, c3, c4, ← h.bit]
    by_cases e1 : b = x
    · subst e1
      rw [rset_eq (by simp; omega), Nat.testBit_or, pow_bit, decide_eq_true (rfl : b = b), decide_eq_false hab]
      simp
    · rw [rset_ne e1, decide_eq_false e1]
      by_cases e2 : a = x
      · subst e2
        rw [rset_eq (by omega), Nat.testBit_or, pow_bit, decide_eq_true (rfl : a = a)]
        simp
      · rw [rset_ne e2, decide_eq_false e2]
        simp
end
def nbr (E : List Ed) (v : Nat) (L : List Nat) : List Nat := L.filter fun u => has E v u
theorem nbr_snoc (E : List Ed) (v : Nat) (L : List Nat) (x : Nat) : nbr E v (L ++ [x]) = if has E v x = true then nbr E v L ++ [x] else nbr E v L := by
  unfold nbr
  rw [List.filter_append]
  cases hx : has E v x with
  | true => simp [hx]
  | false => simp [hx]
theorem range_filter {p : Nat → Bool} {n m : Nat} (h : n ≤ m) (hp : ∀ x, p x = true → x < n) : (List.range m).filter p = (List.range n).filter p := by
  have h1 : List.range m = List.range n ++ (List.range (m - n)).map (n + ·) := by
    rw [← List.range_add]; congr 1; omega
  have h2 : ((List.range (m - n)).map (n + ·)).filter p = [] := by
    rw [List.filter_eq_nil_iff]
    intro a ha hpa
    obtain ⟨q, -, rfl⟩ := List.mem_map.1 ha
    have := hp _ hpa
    omega
  rw [h1, List.filter_append, h2, List.append_nil]
section
variable {n : Nat} {E : List Ed} {R : List Nat}
theorem els_n {S n : Nat} (hn : n ≤ 512) (h : ∀ x, S.testBit x = true → x < n) : els S 0 = (List.range n).filter fun j => S.testBit j := by rw [els_filter, range_filter hn h]
theorem ER.nbr_els (h : ER n E R) (v S : Nat) : nbr E v (els S 0) = els (row R v &&& S) 0 := by
  rw [els_filter, els_filter]
  unfold nbr
  rw [List.filter_filter]
  exact List.filter_congr fun x _ => by rw [Nat.testBit_and, h.bit]
end
def wo (L : List Nat) (v : Nat) : List Nat := L.filter fun x => x != v
theorem wo_snoc (L : List Nat) (v x : Nat) : wo (L ++ [x]) v = if x = v then wo L v else wo L v ++ [x] := by
  unfold wo
  rw [List.filter_append]
  by_cases e : x = v
  · rw [if_pos e]; simp [e]
  · rw [if_neg e]; simp [e]
-- the order of removal
def best (E : List Ed) (left : List Nat) (b : Nat) (l : List Nat) : Nat := l.foldl (fun b v => if (nbr E v left).length < (nbr E b left).length then v else b) b
def bst (E : List Ed) (left : List Nat) : Nat := best E left (left.headD 0) left
def rem (E : List Ed) (n : Nat) : Nat → List Nat × List Nat × Nat
  | 0 => ([], List.range n, 0)
  | k + 1 => ((rem E n k).1 ++ [bst E (rem E n k).2.1], wo (rem E n k).2.1 (bst E (rem E n k).2.1), max (rem E n k).2.2 (nbr E (bst E (rem E n k).2.1) (rem E n k).2.1).length)
section
variable {n : Nat} {E : List Ed} {R : List Nat}
theorem ER.deg (h : ER n E R) (S v : Nat) : (nbr E v (els S 0)).length = deg R S v := by rw [h.nbr_els]; rfl
theorem ER.bst (h : ER n E R) {S : Nat} (hS : Fit S) (hne : S ≠ 0) : bst E (els S 0) = pick R S := by
  have h0 : (els S 0).headD 0 = fst S := by
    rcases els_nxt (n := S) (i := 0) (by omega) with ⟨h1, h2⟩ | ⟨j, h1, h2, h3, h4, h5⟩
    · exfalso
      obtain ⟨j, hj⟩ := ne_bit hne
      rw [Nat.zero_testBit] at hj
      have hj : S.testBit j = true := by cases hb : S.testBit j with | true => rfl | false => exact absurd hb hj
      have := (mem_els hS).2 hj
      rw [h2] at this
      cases this
    · unfold fst
      rw [h3, h5]
      simp
  unfold Ge.bst pick
  rw [h0]
  unfold best pickF
  congr 1
  funext b v
  rw [h.deg, h.deg]
theorem wo_els (S v : Nat) : wo (els S 0) v = els (dif S (2 ^ v)) 0 := by
  rw [els_filter, els_filter]
  unfold wo
  rw [List.filter_filter]
  refine List.filter_congr fun x _ => ?_
  rw [dif_bit, pow_bit, Bool.and_comm]
  congr 1
  by_cases e : v = x
  · subst e; simp
  · rw [decide_eq_false e]; simp; omega
theorem els_all {n : Nat} (hn : n ≤ 512) : els (2 ^ n - 1) 0 = List.range n := by
  rw [els_n hn (fun x hx => by rw [Nat.testBit_two_pow_sub_one] at hx; simpa using hx), List.filter_eq_self]
  intro a ha
  rw [Nat.testBit_two_pow_sub_one]
  simpa using ha
theorem ER.rem (h : ER n E R) : ∀ k, k ≤ n → rem E n k = ((rmv R k).1, els (rmv R k).2.1 0, (rmv R k).2.2)
  | 0, _ => by
    show ([], List.range n, 0) = ([], els (2 ^ R.length - 1) 0, 0)
    rw [h.len, els_all h.le]
  | k + 1, hk => by
    have ih := h.rem k (by omega)
    have hl : R.length ≤ 512 := by rw [h.len]; exact h.le
    have hI := rmv_ok hl k (by rw [h.len]; omega)
    have hb := h.bst hI.fit (rmv_ne (by rw [h.len]; omega) hI)
    show ((Ge.rem E n k).1 ++ [Ge.bst E (Ge.rem E n k).2.1], wo (Ge.rem E n k).2.1 (Ge.bst E (Ge.rem E n k).2.1), max (Ge.rem E n k).2.2 (nbr E (Ge.bst E (Ge.rem E n k).2.1) (Ge.rem E n k).2.1).length) = ((rmv R k).1 ++ [pick R (rmv R k).2.1], els (dif (rmv R k).2.1 (2 ^ pick R (rmv R k).2.1)) 0, max (rmv R k).2.2 (Gh.deg R (rmv R k).2.1 (pick R (rmv R k).2.1)))
    rw [ih]
    dsimp only
    rw [hb, wo_els, h.deg]
end
-- the greedy clique
def choR (E : List Ed) (ch : List Nat) (v : Nat) : List Nat := if (nbr E v ch).length = ch.length then ch ++ [v] else ch
def cho (E : List Ed) (o : List Nat) : List Nat := o.foldl (choR E) []
def pickIn (n : Nat) (ch : List Nat) : List Nat := (List.range n).filter fun v => decide (v ∈ ch)
def cliq (E : List Ed) (n : Nat) : List Nat := pickIn n (cho E (rem E n n).1.reverse)
-- the colours
def colS (E : List Ed) (o : List Nat) (st : Nat × (Nat → Nat)) (v : Nat) : Nat × (Nat → Nat) := (st.1 + 1, upd st.2 v (mexF (usedF st.2 (nbr E v (o.take st.1))) 512 0))
def colE (E : List Ed) (o : List Nat) (k : Nat) : Nat × (Nat → Nat) := (o.take k).foldl (colS E o) (0, fun _ => 0)
theorem colE_next {E : List Ed} {o : List Nat} {k : Nat} (hk : k < o.length) : colE E o (k + 1) = colS E o (colE E o k) o[k] := by
  unfold colE; rw [List.take_succ_eq_append_getElem hk, List.foldl_append]; rfl
theorem colE_1 (E : List Ed) (o : List Nat) : ∀ k, k ≤ o.length → (colE E o k).1 = k
  | 0, _ => rfl
  | k + 1, hk => by rw [colE_next (by omega)]; unfold colS; dsimp only; rw [colE_1 E o k (by omega)]
-- the components
def grow (L : List Nat) (p : List Nat) : List Nat := L.foldl (fun p x => if x ∈ p then p else p ++ [x]) p
theorem grow_snoc (L p : List Nat) (x : Nat) : grow (L ++ [x]) p = if x ∈ grow L p then grow L p else grow L p ++ [x] := by unfold grow; rw [List.foldl_append]; rfl
def bfs (E : List Ed) (vs : List Nat) : Nat → Nat → List Nat → List Nat
  | 0, _, p => p
  | f + 1, k, p => if h : k < p.length then bfs E vs f (k + 1) (grow (nbr E p[k] vs) p) else p
def prt (E : List Ed) (vs : List Nat) (v : Nat) : List Nat := bfs E vs (vs.length + 1) 0 [v]
def inp (vs p : List Nat) : List Nat := vs.filter fun x => decide (x ∈ p)
def compS (E : List Ed) (vs : List Nat) (st : List (List Nat) × List Nat) (v : Nat) : List (List Nat) × List Nat := if v ∈ st.2 then st else (st.1 ++ [inp vs (prt E vs v)], st.2 ++ prt E vs v)
def compF (E : List Ed) (vs l : List Nat) : List (List Nat) × List Nat := l.foldl (compS E vs) ([], [])
def comps (E : List Ed) (vs : List Nat) : List (List Nat) := (compF E vs vs).1
theorem compF_snoc (E : List Ed) (vs l : List Nat) (v : Nat) : compF E vs (l ++ [v]) = compS E vs (compF E vs l) v := by unfold compF; rw [List.foldl_append]; rfl
end Ge
end Go.Proofs.YtjoomgojnpcbeaaDoor
end

section
namespace Go.Proofs.YtjoomgojnpcbeaaDoor
namespace Ge
open Bs Dg Gh
theorem nodup_le {l m : List Nat} (hn : l.Nodup) (hs : ∀ x ∈ l, x ∈ m) : l.length ≤ m.length := by
  induction l generalizing m with
  | nil => simp
  | cons a l ih =>
    obtain ⟨h1, h2⟩ := List.nodup_cons.1 hn
    have ha := hs a (by simp)
    have := ih (m := m.erase a) h2 (fun x hx => (List.mem_erase_of_ne (fun e => h1 (by rw [← e]; exact hx))).2 (hs x (by simp [hx])))
    rw [List.length_erase_of_mem ha] at this
    have := List.length_pos_of_mem ha
    rw [List.length_cons]
    omega
inductive Con (E : List Ed) (vs : List Nat) (v : Nat) : Nat → Prop
  | refl : Con E vs v v
  | step {x y : Nat} : Con E vs v x → has E x y = true → y ∈ vs → Con E vs v y
theorem mem_grow : ∀ (L p : List Nat) (x : Nat), x ∈ grow L p ↔ x ∈ p ∨ x ∈ L
  | [], p, x => by simp [grow]
  | y :: L, p, x => by
    have e : grow (y :: L) p = grow L (if y ∈ p then p else p ++ [y]) := rfl
    rw [e, mem_grow L]
    split
    · next h =>
      simp only [List.mem_cons]
      constructor
      · rintro (h1 | h1)
        · exact .inl h1
        · exact .inr (.inr h1)
      · rintro (h1 | rfl | h1)
        · exact .inl h1
        · exact .inl h
        · exact .inr h1
    · simp only [List.mem_append, List.mem_cons, List.not_mem_nil, or_false]
      exact or_assoc
theorem grow_nd : ∀ (L p : List Nat), p.Nodup → (grow L p).Nodup
  | [], _, h => h
  | y :: L, p, h => by
    have e : grow (y :: L) p = grow L (if y ∈ p then p else p ++ [y]) := rfl
    rw [e]
    refine grow_nd L _ ?_
    split
    · exact h
    · next h1 => exact List.nodup_append.2 ⟨h, List.nodup_cons.2 ⟨by simp, List.nodup_nil⟩, fun a ha b hb => by rw [List.mem_singleton.1 hb]; exact fun e => h1 (e ▸ ha)⟩
theorem grow_pre : ∀ (L p : List Nat), ∃ q, grow L p = p ++ q
  | [], p => ⟨[], by simp [grow]⟩
  | y :: L, p => by
    have e : grow (y :: L) p = grow L (if y ∈ p then p else p ++ [y]) := rfl
    rw [e]
    obtain ⟨q, hq⟩ := grow_pre L (if y ∈ p then p else p ++ [y])
    rw [hq]
    split
    · exact ⟨q, rfl⟩
    · exact ⟨y :: q, by simp⟩
structure BfI (E : List Ed) (vs : List Nat) (v k : Nat) (p : List Nat) : Prop where
  nd : p.Nodup
  sub : ∀ x ∈ p, x ∈ vs
  has : v ∈ p
  con : ∀ x ∈ p, Con E vs v x
  shut : ∀ i (h : i < p.length), i < k → ∀ y ∈ vs, Ge.has E (p[i] : Nat) (y : Nat) = true → y ∈ p
section
variable {E : List Ed} {vs : List Nat} {v k : Nat} {p : List Nat}
theorem BfI.start (hv : v ∈ vs) : BfI E vs v 0 [v] := ⟨List.nodup_cons.2 ⟨by simp, List.nodup_nil⟩, fun x hx => by rw [List.mem_singleton.1 hx]; exact hv, by simp, fun x hx => by rw [List.mem_singleton.1 hx]; exact .refl, fun i _ h => absurd h (by omega)⟩
theorem mem_nbr {L : List Nat} {x y : Nat} : y ∈ nbr E x L ↔ y ∈ L ∧ Ge.has E x y = true := by unfold nbr; rw [List.mem_filter]
theorem BfI.next (h : BfI E vs v k p) (hk : k < p.length) : BfI E vs v (k + 1) (grow (nbr E p[k] vs) p) := by
  obtain ⟨q, hq⟩ := grow_pre (nbr E p[k] vs) p
  refine ⟨grow_nd _ _ h.nd, fun x hx => ?_, (mem_grow _ _ _).2 (.inl h.has), fun x hx => ?_, fun i hi hik y hy hh => ?_⟩
  · rcases (mem_grow _ _ _).1 hx with hx | hx
    · exact h.sub x hx
    · exact (mem_nbr.1 hx).1
  · rcases (mem_grow _ _ _).1 hx with hx | hx
    · exact h.con x hx
    · exact (h.con _ (List.getElem_mem hk)).step (mem_nbr.1 hx).2 (mem_nbr.1 hx).1
  · have hip : i < p.length := by omega
    have e : (grow (nbr E p[k] vs) p)[i] = p[i] := by
      simp only [hq]
      exact List.getElem_append_left hip
    rw [e] at hh
    by_cases e2 : i = k
    · subst e2
      exact (mem_grow _ _ _).2 (.inr (mem_nbr.2 ⟨hy, hh⟩))
    · exact (mem_grow _ _ _).2 (.inl (h.shut i hip (by omega) y hy hh))
theorem BfI.len (h : BfI E vs v k p) : p.length ≤ vs.length := nodup_le h.nd h.sub
theorem bfs_end (f : Nat) (hk : ¬ k < p.length) : bfs E vs f k p = p := by
  cases f with
  | zero => rfl
  | succ f => rw [bfs, dif_neg hk]
theorem bfs_next (f : Nat) (hk : k < p.length) : bfs E vs (f + 1) k p = bfs E vs f (k + 1) (grow (nbr E p[k] vs) p) := by rw [bfs, dif_pos hk]
theorem bfs_inv : ∀ (f k : Nat) (p : List Nat), BfI E vs v k p → vs.length + 1 ≤ k + f → ∃ k', BfI E vs v k' (bfs E vs f k p) ∧ (bfs E vs f k p).length ≤ k'
  | 0, k, p, h, hf => ⟨k, h, by have := h.len; show p.length ≤ k; omega⟩
  | f + 1, k, p, h, hf => by
    by_cases hk : k < p.length
    · rw [bfs_next f hk]
      exact bfs_inv f (k + 1) _ (h.next hk) (by omega)
    · rw [bfs_end _ hk]
      exact ⟨k, h, by omega⟩
theorem prt_mem (hv : v ∈ vs) (x : Nat) : x ∈ prt E vs v ↔ Con E vs v x := by
  obtain ⟨k, h, hk⟩ := bfs_inv (vs.length + 1) 0 [v] (BfI.start (E := E) hv) (by omega)
  refine ⟨fun hx => h.con x hx, fun hx => ?_⟩
  induction hx with
  | refl => exact h.has
  | step h1 h2 h3 ih =>
    obtain ⟨i, hi, rfl⟩ := List.getElem_of_mem ih
    exact h.shut i hi (by unfold prt at hi; omega) _ h3 h2
end
section
variable {n : Nat} {E : List Ed} {R : List Nat}
theorem ER.con (h : ER n E R) {v : Nat} (x : Nat) : Con E (List.range n) v x ↔ Reach R v x := by
  constructor
  · intro hc
    induction hc with
    | refl => exact .refl
    | step h1 h2 h3 ih => exact ih.step (by rw [h.bit]; exact h2)
  · intro hr
    induction hr with
    | refl => exact .refl
    | step h1 h2 ih =>
      refine ih.step (by rw [← h.bit]; exact h2) ?_
      have := h.fit _ _ h2
      rw [List.mem_range, ← h.len]
      exact this
theorem ER.inp (h : ER n E R) {v : Nat} (hv : v < n) : inp (List.range n) (prt E (List.range n) v) = els (rch R v) 0 := by
  have hvR : v < R.length := by rw [h.len]; exact hv
  rw [els_n h.le (fun x hx => by have := ((rch_bit h.ok hvR x).1 hx).lt h.ok hvR; rwa [h.len] at this)]
  unfold Ge.inp
  refine List.filter_congr fun x _ => ?_
  rw [Bool.eq_iff_iff, decide_eq_true_eq, prt_mem (List.mem_range.2 hv), h.con, rch_bit h.ok hvR]
theorem ER.comp (h : ER n E R) : ∀ k, k ≤ n → (compF E (List.range n) (List.range k)).1 = cmpsTo R k ∧ ∀ x, x ∈ (compF E (List.range n) (List.range k)).2 ↔ (uni R (lds R k)).testBit x = true
  | 0, _ => ⟨rfl, fun x => by
      have e : lds R 0 = [] := rfl
      rw [e, uni_bit]
      simp [compF]⟩
  | k + 1, hk => by
    obtain ⟨h1, h2⟩ := h.comp k (by omega)
    have hkR : k < R.length := by rw [h.len]; omega
    have hs := seen_lead h.ok hkR
    rw [List.range_succ, compF_snoc]
    unfold compS
    cases hl : lead R k with
    | false =>
      have hm : k ∈ (compF E (List.range n) (List.range k)).2 := (h2 k).2 (by rw [hs, hl]; rfl)
      rw [if_pos hm, cmpsTo_no hl, lds_no hl]
      exact ⟨h1, h2⟩
    | true =>
      have hm : k ∉ (compF E (List.range n) (List.range k)).2 := fun hm => by have := (h2 k).1 hm; rw [hs, hl] at this; cases this
      rw [if_neg hm, cmpsTo_yes hl, lds_yes hl]
      refine ⟨by rw [h1, h.inp (by omega)], fun x => ?_⟩
      rw [List.mem_append, h2, uni_bit, uni_bit, prt_mem (List.mem_range.2 (by omega)), h.con]
      constructor
      · rintro (⟨u, hu, hb⟩ | hr)
        · exact ⟨u, by simp [hu], hb⟩
        · refine ⟨k, by simp, ?_⟩
          rw [scc_rch h.ok h.sy hkR, rch_bit h.ok hkR]
          exact hr
      · rintro ⟨u, hu, hb⟩
        rcases List.mem_append.1 hu with hu | hu
        · exact .inl ⟨u, hu, hb⟩
        · rw [List.mem_singleton.1 hu, scc_rch h.ok h.sy hkR, rch_bit h.ok hkR] at hb
          exact .inr hb
theorem ER.comps (h : ER n E R) : comps E (List.range n) = cmps R := by
  unfold Ge.comps cmps
  rw [(h.comp n (Nat.le_refl _)).1, h.len]
end
section
variable {n : Nat} {E : List Ed} {R : List Nat}
theorem ER.col (h : ER n E R) {o : List Nat} (hn : o.Nodup) : ∀ k, k ≤ o.length → (colE E o k).2 = (colF R (o.take k)).2
  | 0, _ => rfl
  | k + 1, hk => by
    have ih := h.col hn k (by omega)
    have hkl : k < o.length := by omega
    have hI := CI.all (n := n) (R := R) _ (o.take k) rfl (hn.sublist (List.take_sublist _ _))
    have hnot : o[k] ∉ o.take k := by
      intro hm
      obtain ⟨i, hi, e⟩ := List.getElem_of_mem hm
      rw [List.length_take] at hi
      rw [List.getElem_take] at e
      have := List.pairwise_iff_getElem.1 (List.nodup_iff_pairwise_ne.1 hn) i k (by omega) hkl (by omega)
      exact this e
    rw [colE_next hkl, List.take_succ_eq_append_getElem hkl, colF_snoc]
    unfold colS colR
    dsimp only
    rw [colE_1 E o k (by omega), ih, hI.zero _ hnot]
    congr 2
    apply ext_bit
    intro j
    rw [Bool.eq_iff_iff, used_bit, used_bit]
    constructor
    · rintro ⟨w, hw, e⟩
      obtain ⟨h1, h2⟩ := mem_nbr.1 hw
      rw [← h.bit] at h2
      refine ⟨w, ?_, e⟩
      rw [els_mem (Nat.zero_le _)]
      have := h.fit _ _ h2
      have := h.le
      have := h.len
      refine ⟨Nat.zero_le _, by omega, ?_⟩
      rw [Nat.testBit_and, h2, (hI.bit w).2 h1]; rfl
    · rintro ⟨w, hw, e⟩
      have hb := ((els_mem (Nat.zero_le _)).1 hw).2.2
      rw [Nat.testBit_and, Bool.and_eq_true] at hb
      refine ⟨w, mem_nbr.2 ⟨(hI.bit w).1 hb.2, ?_⟩, e⟩
      rw [← h.bit]; exact hb.1
end
end Ge
end Go.Proofs.YtjoomgojnpcbeaaDoor
end

section
namespace Go.Proofs.YtjoomgojnpcbeaaDoor
namespace Bs
def pc8 (a : Nat) : Nat := a % 2 + a / 2 % 2 + a / 4 % 2 + a / 8 % 2 + a / 16 % 2 + a / 32 % 2 + a / 64 % 2 + a / 128 % 2
theorem pc8_le (a : Nat) : pc8 a ≤ 8 := by unfold pc8; omega
def cto (n m : Nat) : Nat := ((List.range m).filter fun j => n.testBit j).length
theorem cto_succ (n m : Nat) : cto n (m + 1) = cto n m + n / 2 ^ m % 2 := by
  unfold cto
  rw [List.range_succ, List.filter_append, List.length_append]
  congr 1
  have h : n.testBit m = decide (n / 2 ^ m % 2 = 1) := by rw [Nat.testBit_eq_decide_div_mod_eq]
  by_cases hb : n / 2 ^ m % 2 = 1
  · rw [List.filter_cons_of_pos (by rw [h]; simpa using hb), hb]; rfl
  · rw [List.filter_cons_of_neg (by rw [h]; simpa using hb)]
    have : n / 2 ^ m % 2 = 0 := by omega
    rw [this]; rfl
theorem cto_8 (n m : Nat) : cto n (m + 8) = cto n m + pc8 (n / 2 ^ m % 256) := by
  rw [cto_succ, cto_succ, cto_succ, cto_succ, cto_succ, cto_succ, cto_succ, cto_succ]
  have e : ∀ k, n / 2 ^ (m + k) = n / 2 ^ m / 2 ^ k := fun k => by rw [Nat.pow_add, Nat.div_div_eq_div_mul]
  rw [show m + 1 + 1 = m + 2 from rfl, show m + 2 + 1 = m + 3 from rfl, show m + 3 + 1 = m + 4 from rfl, show m + 4 + 1 = m + 5 from rfl, show m + 5 + 1 = m + 6 from rfl, show m + 6 + 1 = m + 7 from rfl, e 1, e 2, e 3, e 4, e 5, e 6, e 7]
  generalize n / 2 ^ m = q
  unfold pc8
  omega
def pc64 (x : Nat) : Nat := pc8 (x % 256) + pc8 (x / 256 % 256) + pc8 (x / 65536 % 256) + pc8 (x / 16777216 % 256) + pc8 (x / 4294967296 % 256) + pc8 (x / 1099511627776 % 256) + pc8 (x / 281474976710656 % 256) + pc8 (x / 72057594037927936 % 256)
theorem cto_64 (n m : Nat) : cto n (m + 64) = cto n m + pc64 (n / 2 ^ m % 18446744073709551616) := by
  have e : ∀ k, n / 2 ^ (m + k) = n / 2 ^ m / 2 ^ k := fun k => by rw [Nat.pow_add, Nat.div_div_eq_div_mul]
  rw [show m + 64 = m + 8 + 8 + 8 + 8 + 8 + 8 + 8 + 8 from rfl, cto_8, cto_8, cto_8, cto_8, cto_8, cto_8, cto_8, cto_8]
  rw [show m + 8 + 8 = m + 16 from rfl, show m + 16 + 8 = m + 24 from rfl, show m + 24 + 8 = m + 32 from rfl, show m + 32 + 8 = m + 40 from rfl, show m + 40 + 8 = m + 48 from rfl, show m + 48 + 8 = m + 56 from rfl, e 8, e 16, e 24, e 32, e 40, e 48, e 56]
  generalize n / 2 ^ m = q
  unfold pc64
  have h0 : q % 18446744073709551616 % 256 = q % 256 := by omega
  have h1 : q % 18446744073709551616 / 256 % 256 = q / 2 ^ 8 % 256 := by omega
  have h2 : q % 18446744073709551616 / 65536 % 256 = q / 2 ^ 16 % 256 := by omega
  have h3 : q % 18446744073709551616 / 16777216 % 256 = q / 2 ^ 24 % 256 := by omega
  have h4 : q % 18446744073709551616 / 4294967296 % 256 = q / 2 ^ 32 % 256 := by omega
  have h5 : q % 18446744073709551616 / 1099511627776 % 256 = q / 2 ^ 40 % 256 := by omega
  have h6 : q % 18446744073709551616 / 281474976710656 % 256 = q / 2 ^ 48 % 256 := by omega
  have h7 : q % 18446744073709551616 / 72057594037927936 % 256 = q / 2 ^ 56 % 256 := by omega
  rw [h0, h1, h2, h3, h4, h5, h6, h7]
  omega
theorem cnt_cto (n : Nat) : cnt n = cto n 512 := by unfold cnt cto; rw [els_filter]
theorem cto_wd (n k : Nat) : cto n (64 * (k + 1)) = cto n (64 * k) + pc64 (wd n k) := by
  rw [show 64 * (k + 1) = 64 * k + 64 by omega, cto_64]; rfl
theorem and_byte (a b c d : Nat) (ha : a < 256) (hc : c < 256) : (a + 256 * b) &&& (c + 256 * d) = (a &&& c) + 256 * (b &&& d) := by
  have h1 : ((a + 256 * b) &&& (c + 256 * d)) % 2 ^ 8 = (a &&& c) := by
    rw [Nat.and_mod_two_pow]
    congr 1 <;> omega
  have h2 : ((a + 256 * b) &&& (c + 256 * d)) / 2 ^ 8 = (b &&& d) := by
    rw [Nat.and_div_two_pow]
    congr 1 <;> omega
  have h3 : (a &&& c) < 256 := Nat.lt_of_le_of_lt Nat.and_le_left ha
  omega
def rep (c : Nat) : Nat → Nat
  | 0 => 0
  | k + 1 => c + 256 * rep c k
theorem rep_succ (c k : Nat) : rep c (k + 1) = c + 256 * rep c k := rfl
def p1 (a : Nat) : Nat := (a / 2 &&& 85) + (a &&& 85)
def p2 (a : Nat) : Nat := (a / 4 &&& 51) + (a &&& 51)
def q1 (k x : Nat) : Nat := (x / 2 &&& rep 85 k) + (x &&& rep 85 k)
def q2 (k x : Nat) : Nat := (x / 4 &&& rep 51 k) + (x &&& rep 51 k)
def q3 (k x : Nat) : Nat := (x / 16 + x) &&& rep 15 k
theorem d1 : ∀ a, a < 256 → ∀ t, t < 2 → (a / 2 + 128 * t) &&& 85 = a / 2 &&& 85 := by decide +kernel
theorem d2 : ∀ a, a < 256 → ∀ t, t < 4 → (a / 4 + 64 * t) &&& 51 = a / 4 &&& 51 := by decide +kernel
theorem p1_le : ∀ a, a < 256 → p1 a < 256 := by decide +kernel
theorem q1_byte (k a b : Nat) (ha : a < 256) : q1 (k + 1) (a + 256 * b) = p1 a + 256 * q1 k b := by
  unfold q1 p1
  rw [rep_succ]
  have e : (a + 256 * b) / 2 = (a / 2 + 128 * (b % 2)) + 256 * (b / 2) := by omega
  rw [e, and_byte _ _ _ _ (by omega) (by omega), and_byte _ _ _ _ ha (by omega), d1 a ha _ (by omega), Nat.mul_add]
  ac_rfl
theorem q2_byte (k a b : Nat) (ha : a < 256) : q2 (k + 1) (a + 256 * b) = p2 a + 256 * q2 k b := by
  unfold q2 p2
  rw [rep_succ]
  have e : (a + 256 * b) / 4 = (a / 4 + 64 * (b % 4)) + 256 * (b / 4) := by omega
  rw [e, and_byte _ _ _ _ (by omega) (by omega), and_byte _ _ _ _ ha (by omega), d2 a ha _ (by omega), Nat.mul_add]
  ac_rfl
theorem p12 : ∀ a, a < 256 → p2 (p1 a) < 256 ∧ p2 (p1 a) ≤ 68 ∧ p2 (p1 a) % 16 ≤ 4 ∧ (p2 (p1 a) / 16 + p2 (p1 a)) % 16 = pc8 a := by decide +kernel
theorem and15 (a : Nat) : a &&& 15 = a % 16 := Nat.and_two_pow_sub_one_eq_mod a 4
theorem q3_byte (k a b : Nat) (ha : a ≤ 68) (hb : b % 16 ≤ 4) : q3 (k + 1) (a + 256 * b) = (a / 16 + a) % 16 + 256 * q3 k b := by
  unfold q3
  rw [rep_succ]
  have e : (a + 256 * b) / 16 + (a + 256 * b) = (a / 16 + a + 16 * (b % 16)) + 256 * (b / 16 + b) := by omega
  rw [e, and_byte _ _ _ _ (by omega) (by omega), and15]
  have e2 : (a / 16 + a + 16 * (b % 16)) % 16 = (a / 16 + a) % 16 := by omega
  rw [e2]
def cat : List Nat → Nat
  | [] => 0
  | a :: l => a + 256 * cat l
theorem q_cat : ∀ l : List Nat, (∀ a ∈ l, a < 256) → q2 l.length (q1 l.length (cat l)) = cat (l.map fun a => p2 (p1 a))
  | [], _ => by simp [cat, q1, q2, rep]
  | a :: l, h => by
    have ha := h a (by simp)
    rw [List.length_cons, cat, q1_byte _ _ _ ha, q2_byte _ _ _ (p1_le a ha), q_cat l (fun x hx => h x (by simp [hx]))]
    rfl
theorem cat_mod : ∀ l : List Nat, (∀ a ∈ l, a < 256) → cat (l.map fun a => p2 (p1 a)) % 16 ≤ 4
  | [], _ => by simp [cat]
  | a :: l, h => by
    have := p12 a (h a (by simp))
    rw [List.map_cons, cat]
    omega
theorem q3_cat : ∀ l : List Nat, (∀ a ∈ l, a < 256) → q3 l.length (cat (l.map fun a => p2 (p1 a))) = cat (l.map pc8)
  | [], _ => by simp [cat, q3, rep]
  | a :: l, h => by
    have ha := p12 a (h a (by simp))
    have hl : ∀ x ∈ l, x < 256 := fun x hx => h x (by simp [hx])
    rw [List.length_cons, List.map_cons, cat, q3_byte _ _ _ ha.2.1 (cat_mod l hl), ha.2.2.2, q3_cat l hl]
    rfl
theorem sum_bytes (c0 c1 c2 c3 c4 c5 c6 c7 : Nat) (h0 : c0 ≤ 8) (h1 : c1 ≤ 8) (h2 : c2 ≤ 8) (h3 : c3 ≤ 8) (h4 : c4 ≤ 8) (h5 : c5 ≤ 8) (h6 : c6 ≤ 8) (h7 : c7 ≤ 8) (y u v w : Nat) (hy : y = cat [c0, c1, c2, c3, c4, c5, c6, c7]) (hu : u = y + y / 256) (hv : v = u + u / 65536) (hw : w = v + v / 4294967296) :
    w % 128 = c0 + c1 + c2 + c3 + c4 + c5 + c6 + c7 ∧ w < 9223372036854775808 ∧ u < 9223372036854775808 ∧ v < 9223372036854775808 := by
  obtain ⟨y7, e7⟩ : ∃ y7, y7 = c7 := ⟨_, rfl⟩
  obtain ⟨y6, e6⟩ : ∃ y6, y6 = c6 + 256 * y7 := ⟨_, rfl⟩
  obtain ⟨y5, e5⟩ : ∃ y5, y5 = c5 + 256 * y6 := ⟨_, rfl⟩
  obtain ⟨y4, e4⟩ : ∃ y4, y4 = c4 + 256 * y5 := ⟨_, rfl⟩
  obtain ⟨y3, e3⟩ : ∃ y3, y3 = c3 + 256 * y4 := ⟨_, rfl⟩
  obtain ⟨y2, e2⟩ : ∃ y2, y2 = c2 + 256 * y3 := ⟨_, rfl⟩
  obtain ⟨y1, e1⟩ : ∃ y1, y1 = c1 + 256 * y2 := ⟨_, rfl⟩
  have e0 : y = c0 + 256 * y1 := by rw [hy, e1, e2, e3, e4, e5, e6, e7]; simp only [cat, Nat.mul_zero, Nat.add_zero]
  clear hy
  have f1 : y / 256 = y1 := by omega
  rw [f1] at hu
  have f2 : u / 65536 = y2 + y3 := by clear hv hw f1 e3 e4 e5 e6 e7 h3 h4 h5 h6 h7; omega
  rw [f2] at hv
  have f3 : v / 4294967296 = y4 + y5 + y6 + y7 := by clear hw f1 f2 e7 h7; omega
  rw [f3] at hw
  have g6 : y6 ≤ 2056 := by omega
  have g5 : y5 ≤ 526344 := by omega
  have g4 : y4 ≤ 134744072 := by omega
  have g3 : y3 ≤ 34494482440 := by omega
  have g2 : y2 ≤ 8830587504648 := by omega
  have g1 : y1 ≤ 2260630401189896 := by omega
  have g0 : y ≤ 578721382704613384 := by omega
  have hw2 : w = y + y1 + y2 + y3 + y4 + y5 + y6 + y7 := by omega
  have hm : ∃ q, w = c0 + c1 + c2 + c3 + c4 + c5 + c6 + c7 + 256 * q := ⟨y1 + y2 + y3 + y4 + y5 + y6 + y7, by omega⟩
  obtain ⟨q, hq⟩ := hm
  refine ⟨by clear hw2 e0 e1 e2 e3 e4 e5 e6 e7 hu hv hw f1 f2 f3; omega, by clear hq; omega, by clear hq; omega, by clear hq; omega⟩
end Bs
end Go.Proofs.YtjoomgojnpcbeaaDoor
end

section
namespace Go.Proofs.YtjoomgojnpcbeaaDoor
namespace Gh
open Bs Dg
structure DI (s : Bk) : Prop where
  don : ∀ b ∈ s.blocks, ∃ u, ∀ x ∈ b, x = u ∨ (0 < s.ent x ∧ x ∉ s.stack)
  nd : s.blocks.Nodup
  len : ∀ b ∈ s.blocks, b.length ≤ 512
theorem DI.enter {v : Nat} {s : Bk} (h : DI s) (h0 : s.ent v = 0) : DI (enter v s) where
  don := fun b hb => by
    obtain ⟨u, hu⟩ := h.don b hb
    refine ⟨u, fun x hx => ?_⟩
    rcases hu x hx with h1 | ⟨h1, h2⟩
    · exact .inl h1
    · have hne : x ≠ v := fun e => by subst e; omega
      refine .inr ⟨?_, ?_⟩
      · show 0 < upd s.ent v (s.time + 1) x
        unfold upd
        rw [if_neg hne]
        exact h1
      · show x ∉ s.stack ++ [v]
        rw [List.mem_append, List.mem_singleton]
        rintro (h3 | h3)
        · exact h2 h3
        · exact hne h3
  nd := h.nd
  len := h.len
theorem DI.setlow {v x : Nat} {s : Bk} (h : DI s) : DI (setlow v x s) := ⟨h.don, h.nd, h.len⟩
theorem DI.cut {n v w : Nat} {s : Bk} (h : DI s) (bi : BI n s) (hn : n ≤ 512) (hv : v < n) (hvs : v ∈ s.stack) (hw : w ∈ s.stack) (hne : v ≠ w) : DI (cut v w s) := by
  have hmem : ∀ x ∈ v :: popd w s, x < 512 := fun x hx => by
    rcases List.mem_cons.1 hx with e | hx
    · omega
    · have := (bi.mem x (List.mem_of_mem_drop hx)).1
      omega
  have hk := List.idxOf_lt_length_of_mem hw
  have hwp : w ∈ popd w s := by
    unfold popd
    rw [List.drop_eq_getElem_cons hk, List.getElem_idxOf hk]
    simp
  have hsub : ∀ x, x ∈ (Gh.cut v w s).stack → x ∈ s.stack := fun x hx => List.mem_of_mem_take hx
  refine ⟨fun b hb => ?_, ?_, fun b hb => ?_⟩
  rotate_left 2
  · have hb : b ∈ s.blocks ++ [srt (v :: popd w s)] := hb
    rcases List.mem_append.1 hb with hb | hb
    · exact h.len b hb
    · rw [List.mem_singleton.1 hb]; exact els_len _ _
  · have hb : b ∈ s.blocks ++ [srt (v :: popd w s)] := hb
    rcases List.mem_append.1 hb with hb | hb
    · obtain ⟨u, hu⟩ := h.don b hb
      exact ⟨u, fun x hx => (hu x hx).imp id fun ⟨h1, h2⟩ => ⟨h1, fun h3 => h2 (hsub x h3)⟩⟩
    · obtain rfl := List.mem_singleton.1 hb
      refine ⟨v, fun x hx => ?_⟩
      rcases List.mem_cons.1 ((srt_mem hmem).1 hx) with e | hx
      · exact .inl e
      · refine .inr ⟨(bi.mem x (List.mem_of_mem_drop hx)).2, fun h3 => ?_⟩
        have hnd := bi.nd
        rw [← List.take_append_drop (s.stack.idxOf w) s.stack, List.nodup_append] at hnd
        exact hnd.2.2 x h3 x hx rfl
  · show (s.blocks ++ [srt (v :: popd w s)]).Nodup
    rw [List.nodup_append]
    refine ⟨h.nd, by simp, fun b hb b' hb' e => ?_⟩
    obtain rfl := List.mem_singleton.1 hb'
    subst e
    obtain ⟨u, hu⟩ := h.don _ hb
    have h1 := hu v ((srt_mem hmem).2 (by simp))
    have h2 := hu w ((srt_mem hmem).2 (by simp [hwp]))
    rcases h1 with h1 | ⟨-, h1⟩
    · rcases h2 with h2 | ⟨-, h2⟩
      · exact hne (h1.trans h2.symm)
      · exact h2 hw
    · exact h1 hvs
theorem fin_di {n v w : Nat} {s s1 s2 : Bk} (hn : n ≤ 512) (hv : v < n) (h : VI n s s1 v) (hw : VI n s1 s2 w) (d : DI s2) : DI (fin v w s2) := by
  obtain ⟨rest, hr⟩ := h.stk
  obtain ⟨rest2, hr2⟩ := hw.stk
  have hl : BI n (setlow v (min (s2.low v) (s2.low w)) s2) := hw.bi.setlow (by have := hw.bi.low v; omega)
  unfold fin
  dsimp only
  split
  · exact d.setlow
  · have hwm : w ∈ s2.stack := by rw [hr2]; simp
    have hvm : v ∈ s1.stack := by rw [hr]; simp
    have hvm2 : v ∈ s2.stack := by rw [hr2]; simp [hvm]
    refine d.setlow.cut hl hn hv hvm2 hwm (fun e => ?_)
    have := hw.bi.nd
    rw [hr2, List.nodup_append] at this
    exact this.2.2 v hvm w (by simp) e
theorem fold_di {n v : Nat} {p : Int} {s : Bk} {vis : Nat → Int → Bk → Bk} {f : Nat} (hn : n ≤ 512) (hv : v < n) (hvis : ∀ w s1, w < n → BI n s1 → s1.ent w = 0 → left n s1 ≤ f → VI n s1 (vis w v s1) w) (hd : ∀ w s1, w < n → BI n s1 → s1.ent w = 0 → left n s1 ≤ f → DI s1 → DI (vis w v s1)) :
    ∀ (l : List Nat) (s1 : Bk), (∀ w ∈ l, w < n) → left n s1 ≤ f → VI n s s1 v → DI s1 → DI (l.foldl (stepB vis v p) s1)
  | [], _, _, _, _, d => d
  | w :: l, s1, hl, hf, h, d => by
    have hw := hl w (by simp)
    have h1 := fold_vi (p := p) hvis [w] s1 (fun x hx => by rw [List.mem_singleton.1 hx]; exact hw) hf h
    rw [List.foldl_cons, List.foldl_nil] at h1
    rw [List.foldl_cons]
    refine fold_di hn hv hvis hd l _ (fun x hx => hl x (by simp [hx])) h1.2 h1.1 ?_
    unfold stepB
    split
    · exact d
    · split
      · exact d.setlow
      · rename_i h3
        exact fin_di hn hv h (hvis w s1 hw h.bi (by omega) hf) (hd w s1 hw h.bi (by omega) hf d)
theorem visit_di {R : List Nat} {n : Nat} (hR : ∀ v w, (row R v).testBit w = true → w < n) (hn : n ≤ 512) : ∀ (f v : Nat) (p : Int) (s : Bk), v < n → BI n s → s.ent v = 0 → left n s ≤ f → DI s → DI (visit R f v p s)
  | 0, _, _, _, _, _, _, _, d => d
  | f + 1, v, p, s, hv, h, h0, hf, d => by
    have h1 := left_enter hv h0
    refine fold_di (f := f) hn hv (fun w s1 hw hb h0' hf' => visit_vi hR hn f w v s1 hw hb h0' hf') (fun w s1 hw hb h0' hf' => visit_di hR hn f w v s1 hw hb h0' hf') _ _ (fun w hw => hR v w ?_) (by omega) (VI.enter h hv h0) (d.enter h0)
    rw [mem_els (fun i hi => by cases hc : (row R v).testBit i with | false => rfl | true => have := hR v i hc; omega)] at hw
    exact hw
theorem upto_ok {R : List Nat} (hR : ∀ v w, (row R v).testBit w = true → w < R.length) (hn : R.length ≤ 512) : ∀ k, k ≤ R.length → BI R.length (upto R k) ∧ DI (upto R k) ∧ (upto R k).stack = []
  | 0, _ => ⟨BI.start _, ⟨fun b hb => absurd hb (by simp [upto, start]), List.nodup_nil, fun b hb => absurd hb (by simp [upto, start])⟩, rfl⟩
  | k + 1, hk => by
    obtain ⟨h1, h2, h3⟩ := upto_ok hR hn k (by omega)
    unfold upto
    dsimp only
    split
    · rename_i h0
      have hl : left R.length (upto R k) ≤ R.length := by have := h1.ct; omega
      have vi := visit_vi hR hn R.length k (-1) _ (by omega) h1 h0 hl
      have d := visit_di hR hn R.length k (-1) _ (by omega) h1 h0 hl h2
      refine ⟨⟨List.nodup_nil, fun x hx => absurd hx (by simp), vi.bi.ent, vi.bi.low, vi.bi.sh, ?_, vi.bi.ct⟩, ⟨fun b hb => ?_, d.nd, d.len⟩, rfl⟩
      · have := vi.bi.cb
        simp only [List.length_nil]
        omega
      · obtain ⟨u, hu⟩ := d.don b hb
        exact ⟨u, fun x hx => (hu x hx).imp id fun ⟨h4, _⟩ => ⟨h4, by simp⟩⟩
    · exact ⟨h1, h2, h3⟩
def lexC : List Int → List Int → Int
  | [], [] => 0
  | [], _ :: _ => -1
  | _ :: _, [] => 1
  | a :: as, b :: bs => if a < b then -1 else if b < a then 1 else lexC as bs
theorem lexC_refl : ∀ a : List Int, lexC a a = 0
  | [] => rfl
  | a :: as => by unfold lexC; rw [if_neg (by omega), if_neg (by omega)]; exact lexC_refl as
theorem lexC_zero : ∀ {a b : List Int}, lexC a b = 0 → a = b
  | [], [], _ => rfl
  | [], _ :: _, h => by simp [lexC] at h
  | _ :: _, [], h => by simp [lexC] at h
  | a :: as, b :: bs, h => by
    unfold lexC at h
    split at h
    · omega
    · split at h
      · omega
      · rw [lexC_zero h, show a = b by omega]
theorem lexC_trans : ∀ {a b c : List Int}, lexC a b < 0 → lexC b c < 0 → lexC a c < 0
  | [], [], _, h, _ => by simp [lexC] at h
  | [], _ :: _, [], _, h => by simp [lexC] at h
  | [], _ :: _, _ :: _, _, _ => by simp [lexC]
  | _ :: _, [], _, h, _ => by simp [lexC] at h
  | _ :: _, _ :: _, [], _, h => by simp [lexC] at h
  | a :: as, b :: bs, c :: cs, h1, h2 => by
    unfold lexC at h1 h2 ⊢
    split at h1
    · split at h2
      · rw [if_pos (by omega)]; omega
      · split at h2
        · omega
        · rw [if_pos (by omega)]; omega
    · split at h1
      · omega
      · split at h2
        · rw [if_pos (by omega)]; omega
        · split at h2
          · omega
          · rw [if_neg (by omega), if_neg (by omega)]
            exact lexC_trans h1 h2
theorem lexC_swap : ∀ (a b : List Int), lexC b a = - lexC a b
  | [], [] => rfl
  | [], _ :: _ => rfl
  | _ :: _, [] => rfl
  | a :: as, b :: bs => by
    unfold lexC
    by_cases h1 : a < b
    · rw [if_pos h1, if_neg (by omega), if_pos h1]; rfl
    · by_cases h2 : b < a
      · rw [if_pos h2, if_neg h1, if_pos h2]
      · rw [if_neg h2, if_neg h1, if_neg h1, if_neg h2]
        exact lexC_swap as bs
theorem lexC_le_trans {a b c : List Int} (h1 : lexC a b ≤ 0) (h2 : lexC b c ≤ 0) : lexC a c ≤ 0 := by
  rcases Int.lt_or_le (lexC a b) 0 with h3 | h3
  · rcases Int.lt_or_le (lexC b c) 0 with h4 | h4
    · have := lexC_trans h3 h4; omega
    · rw [← lexC_zero (show lexC b c = 0 by omega)]; omega
  · rw [lexC_zero (show lexC a b = 0 by omega)]; exact h2
def nz (l : List Nat) : List Int := l.map fun (x : Nat) => (x : Int)
def ins (a : List Nat) : List (List Nat) → List (List Nat)
  | [] => [a]
  | b :: l => if lexC (nz a) (nz b) ≤ 0 then a :: b :: l else b :: ins a l
def isort : List (List Nat) → List (List Nat)
  | [] => []
  | a :: l => ins a (isort l)
theorem ins_perm (a : List Nat) : ∀ l, (ins a l).Perm (a :: l)
  | [] => .refl _
  | b :: l => by
    unfold ins
    split
    · exact .refl _
    · exact ((ins_perm a l).cons b).trans (.swap a b l)
theorem isort_perm : ∀ l, (isort l).Perm l
  | [] => .refl _
  | a :: l => (ins_perm a (isort l)).trans ((isort_perm l).cons a)
def leL (a b : List Nat) : Prop := lexC (nz a) (nz b) ≤ 0
theorem leL_trans {a b c : List Nat} (h1 : leL a b) (h2 : leL b c) : leL a c := lexC_le_trans h1 h2
theorem ins_sorted (a : List Nat) : ∀ l, l.Pairwise leL → (ins a l).Pairwise leL
  | [], _ => List.pairwise_singleton _ _
  | b :: l, h => by
    rw [List.pairwise_cons] at h
    unfold ins
    split
    · rename_i h1
      rw [List.pairwise_cons, List.pairwise_cons]
      exact ⟨fun c hc => by
        rcases List.mem_cons.1 hc with e | hc
        · rw [e]; exact h1
        · exact leL_trans h1 (h.1 c hc), h⟩
    · rename_i h1
      rw [List.pairwise_cons]
      refine ⟨fun c hc => ?_, ins_sorted a l h.2⟩
      rcases List.mem_cons.1 ((ins_perm a l).mem_iff.1 hc) with e | hc
      · rw [e]
        show lexC _ _ ≤ 0
        rw [lexC_swap]
        omega
      · exact h.1 c hc
theorem isort_sorted : ∀ l, (isort l).Pairwise leL
  | [] => List.Pairwise.nil
  | a :: l => ins_sorted a _ (isort_sorted l)
theorem map_inj {a b : List Nat} (h : nz a = nz b) : a = b := by
  have h2 := congrArg (List.map Int.toNat) h
  simpa [nz, List.map_map, Function.comp_def] using h2
theorem sorted_uniq {l l' : List (List Nat)} (hp : l.Perm l') (h : l.Pairwise leL) (h' : l'.Pairwise leL) : l = l' :=
  hp.eq_of_pairwise (fun a b _ _ h1 h2 => map_inj (lexC_zero (by
    have h1 : lexC _ _ ≤ 0 := h1
    have h2 : lexC _ _ ≤ 0 := h2
    rw [lexC_swap] at h2
    omega))) h h'
def blks (R : List Nat) : List (List Nat) := isort (found R).blocks
def cuts (R : List Nat) : List Nat := (List.range R.length).filter fun v => decide (1 < (found R).sh v)
end Gh
end Go.Proofs.YtjoomgojnpcbeaaDoor
end

section
namespace Go.Proofs.YtjoomgojnpcbeaaDoor
namespace Gh
open Bs Dg
def adj (R : List Nat) (a b : Nat) : Prop := (row R a).testBit b = true
inductive Lk (R : List Nat) (S : Nat → Prop) : Nat → Nat → Prop
  | refl {a : Nat} : S a → Lk R S a a
  | step {a b c : Nat} : Lk R S a b → adj R b c → S c → Lk R S a c
theorem Lk.left {R : List Nat} {S : Nat → Prop} {a b : Nat} (h : Lk R S a b) : S a := by
  induction h with
  | refl h => exact h
  | step _ _ _ ih => exact ih
theorem Lk.right {R : List Nat} {S : Nat → Prop} {a b : Nat} (h : Lk R S a b) : S b := by
  cases h with
  | refl h => exact h
  | step _ _ h => exact h
theorem Lk.trans {R : List Nat} {S : Nat → Prop} {a b c : Nat} (h : Lk R S a b) (h2 : Lk R S b c) : Lk R S a c := by
  induction h2 with
  | refl => exact h
  | step _ h4 h5 ih => exact ih.step h4 h5
theorem Lk.one {R : List Nat} {S : Nat → Prop} {a b : Nat} (ha : S a) (hb : S b) (h : adj R a b) : Lk R S a b := (Lk.refl ha).step h hb
theorem Lk.symm {R : List Nat} (hs : ∀ a b, adj R a b → adj R b a) {S : Nat → Prop} {a b : Nat} (h : Lk R S a b) : Lk R S b a := by
  induction h with
  | refl h => exact .refl h
  | step h3 h4 h5 ih => exact (Lk.one h5 h3.right (hs _ _ h4)).trans ih
theorem Lk.mono {R : List Nat} {S S' : Nat → Prop} (hS : ∀ z, S z → S' z) {a b : Nat} (h : Lk R S a b) : Lk R S' a b := by
  induction h with
  | refl h => exact .refl (hS _ h)
  | step _ h4 h5 ih => exact ih.step h4 (hS _ h5)
theorem Lk.stay {R : List Nat} {S C : Nat → Prop} (hc : ∀ x y, C x → S x → adj R x y → S y → C y) {a b : Nat} (ha : C a) (h : Lk R S a b) : C b := by
  induction h with
  | refl => exact ha
  | step h3 h4 h5 ih => exact hc _ _ ih h3.right h4 h5
def Conn (R : List Nat) (S : Nat → Prop) : Prop := ∀ a b, S a → S b → Lk R S a b
def NS (R : List Nat) (S : Nat → Prop) : Prop := Conn R S ∧ ∀ x, Conn R (fun y => S y ∧ y ≠ x)
theorem conn_of {R : List Nat} (hs : ∀ a b, adj R a b → adj R b a) {S : Nat → Prop} (v : Nat) (h : ∀ y, S y → Lk R S y v) : Conn R S := fun a b ha hb => (h a ha).trans ((h b hb).symm hs)
structure Pre (R : List Nat) (A : List Nat) (s : Bk) : Prop where
  act : ∀ a ∈ A, 0 < s.ent a
  ord : A.Pairwise (fun a b => s.ent b < s.ent a)
  clo : ∀ x, 0 < s.ent x → x ∉ A → ∀ y, adj R x y → 0 < s.ent y
def Par (R : List Nat) (A : List Nat) (p : Int) (v : Nat) : Prop := (A = [] ∧ p = -1) ∨ ∃ q A', A = q :: A' ∧ p = (q : Int) ∧ adj R v q
structure PV (R : List Nat) (A : List Nat) (p : Int) (s s1 : Bk) (v : Nat) (D : Nat → Prop) (rest : List Nat) (nb : List (List Nat)) : Prop where
  stk : s1.stack = s.stack ++ v :: rest
  blk : s1.blocks = s.blocks ++ nb
  lt : ∀ x ∈ v :: rest, s.ent x = 0 ∧ 0 < s1.ent x
  tm : s.time + 1 ≤ s1.time
  entv : s1.ent v = s.time + 1
  ent : ∀ x, 0 < s.ent x → s1.ent x = s.ent x
  lowo : ∀ x, 0 < s.ent x → s1.low x = s.low x
  new : ∀ x, s.ent x = 0 → 0 < s1.ent x → s.time < s1.ent x
  edge : ∀ x, s.ent x = 0 → 0 < s1.ent x → ∀ y, adj R x y → (x = v ∧ ¬ D y) ∨ (s.ent y = 0 ∧ 0 < s1.ent y) ∨ (y ∈ A ∧ (s1.low v ≤ s1.ent y ∨ (y : Int) = p))
  con : ∀ y ∈ v :: rest, Lk R (fun z => z ∈ v :: rest) y v
  low : s1.low v ≤ s1.ent v
  lowp : s1.low v < s1.ent v → ∃ y ∈ v :: rest, ∃ z ∈ A, s1.ent z = s1.low v ∧ adj R y z
  two : ∀ q : Nat, p = (q : Int) → ∀ x ∈ v :: rest, ∀ y ∈ v :: rest, y ≠ x → ∃ u ∈ A, (s1.low v ≤ s1.ent u ∨ u = q) ∧ Lk R (fun z => (z ∈ v :: rest ∨ (z ∈ A ∧ (s1.low v ≤ s1.ent z ∨ z = q))) ∧ z ≠ x) y u
  key : ∀ S, NS R S → ∀ x, S x → s.ent x = 0 → 0 < s1.ent x → (∃ b ∈ nb, ∀ z, S z → z ∈ b) ∨ (∀ z, S z → s.ent z = 0 → 0 < s1.ent z → z ∈ v :: rest)
  ns : ∀ b ∈ nb, NS R (fun z => z ∈ b) ∧ ∃ x y, x ∈ b ∧ y ∈ b ∧ x ≠ y
  root : A = [] → rest = []
section
variable {R A : List Nat} {p : Int} {s s1 s2 : Bk} {v w : Nat} {D : Nat → Prop} {rest rest2 : List Nat} {nb nb2 : List (List Nat)}
theorem upd_eq (f : Nat → Nat) (v x : Nat) : upd f v x v = x := by unfold upd; rw [if_pos rfl]
theorem upd_ne {f : Nat → Nat} {v x j : Nat} (h : j ≠ v) : upd f v x j = f j := by unfold upd; rw [if_neg h]
theorem PV.start (h0 : s.ent v = 0) : PV R A p s (enter v s) v (fun _ => False) [] [] := by
  have hn : ∀ x, s.ent x = 0 → 0 < upd s.ent v (s.time + 1) x → x = v := fun x hx h => by
    by_cases e : x = v
    · exact e
    · rw [upd_ne e, hx] at h; omega
  have ho : ∀ x, 0 < s.ent x → x ≠ v := fun x hx e => by rw [e, h0] at hx; omega
  refine ⟨rfl, (List.append_nil _).symm, fun x hx => ?_, Nat.le_refl _, upd_eq _ _ _, fun x hx => upd_ne (ho x hx), fun x hx => upd_ne (ho x hx), fun x hx h => ?_, fun x hx h y _ => .inl ⟨hn x hx h, fun h => h⟩, fun y hy => ?_, ?_, fun h => ?_, fun q _ x hx y hy hne => ?_, fun S _ x _ _ _ => .inr fun z _ hz hz2 => ?_, fun b hb => absurd hb (by simp), fun _ => rfl⟩
  · obtain rfl := List.mem_singleton.1 hx
    exact ⟨h0, by show 0 < upd s.ent x (s.time + 1) x; rw [upd_eq]; omega⟩
  · obtain rfl := hn x hx h
    show s.time < upd s.ent x (s.time + 1) x
    rw [upd_eq]; omega
  · obtain rfl := List.mem_singleton.1 hy
    exact .refl (by simp)
  · show upd s.low v (s.time + 1) v ≤ upd s.ent v (s.time + 1) v
    rw [upd_eq, upd_eq]; exact Nat.le_refl _
  · have h : upd s.low v (s.time + 1) v < upd s.ent v (s.time + 1) v := h
    rw [upd_eq, upd_eq] at h; omega
  · rw [List.mem_singleton.1 hx, List.mem_singleton.1 hy] at hne
    exact absurd rfl hne
  · exact List.mem_singleton.2 (hn z hz hz2)
theorem PV.skip (h : PV R A p s s1 v D rest nb) (hp : (w : Int) = p) (hpa : Par R A p v) : PV R A p s s1 v (fun y => D y ∨ y = w) rest nb := by
  refine { h with edge := fun x hx hx1 y hy => ?_ }
  rcases h.edge x hx hx1 y hy with ⟨h1, h2⟩ | h1
  · by_cases e : y = w
    · refine .inr (.inr ⟨?_, .inr (by rw [e]; exact hp)⟩)
      rcases hpa with ⟨-, h3⟩ | ⟨q, A', rfl, h3, -⟩
      · omega
      · rw [e, show w = q by omega]; simp
    · exact .inl ⟨h1, fun h3 => h3.elim h2 e⟩
  · exact .inr h1
theorem PV.seen (h : PV R A p s s1 v D rest nb) (hs : ∀ a b, adj R a b → adj R b a) (pre : Pre R A s) (hvw : adj R v w) (hw : 0 < s1.ent w) : PV R A p s (setlow v (min (s1.low v) (s1.ent w)) s1) v (fun y => D y ∨ y = w) rest nb := by
  have hv0 := (h.lt v (by simp)).1
  have hlv : (setlow v (min (s1.low v) (s1.ent w)) s1).low v = min (s1.low v) (s1.ent w) := upd_eq _ _ _
  have hle : min (s1.low v) (s1.ent w) ≤ s1.low v := Nat.min_le_left _ _
  have hwA : s.ent w = 0 ∨ w ∈ A := by
    rcases Nat.eq_zero_or_pos (s.ent w) with h1 | h1
    · exact .inl h1
    · refine .inr ?_
      by_cases h2 : w ∈ A
      · exact h2
      · have := pre.clo w h1 h2 v (hs _ _ hvw)
        omega
  refine { h with lowo := fun x hx => ?_, edge := fun x hx hx1 y hy => ?_, low := ?_, lowp := fun hl => ?_, two := fun q hq x hx y hy hne => ?_ }
  · show upd s1.low v _ x = s.low x
    rw [upd_ne (fun e => by rw [e, hv0] at hx; omega)]
    exact h.lowo x hx
  · show (x = v ∧ _) ∨ (s.ent y = 0 ∧ 0 < s1.ent y) ∨ (y ∈ A ∧ (upd s1.low v _ v ≤ s1.ent y ∨ _))
    rw [upd_eq]
    rcases h.edge x hx hx1 y hy with ⟨h1, h2⟩ | h1 | ⟨h1, h2⟩
    · by_cases e : y = w
      · rw [e]
        rcases hwA with h3 | h3
        · exact .inr (.inl ⟨h3, hw⟩)
        · exact .inr (.inr ⟨h3, .inl (Nat.min_le_right _ _)⟩)
      · exact .inl ⟨h1, fun h3 => h3.elim h2 e⟩
    · exact .inr (.inl h1)
    · exact .inr (.inr ⟨h1, h2.imp (fun h3 => Nat.le_trans hle h3) id⟩)
  · rw [hlv]
    exact Nat.le_trans hle h.low
  · have hl : upd s1.low v (min (s1.low v) (s1.ent w)) v < s1.ent v := hl
    rw [upd_eq] at hl
    rw [hlv]
    by_cases hc : s1.ent w < s1.low v
    · have e : min (s1.low v) (s1.ent w) = s1.ent w := Nat.min_eq_right (by omega)
      rw [e] at hl ⊢
      refine ⟨v, by simp, w, ?_, rfl, hvw⟩
      rcases hwA with h3 | h3
      · have := h.new w h3 hw
        have := h.entv
        omega
      · exact h3
    · have e : min (s1.low v) (s1.ent w) = s1.low v := Nat.min_eq_left (by omega)
      rw [e] at hl ⊢
      exact h.lowp hl
  · obtain ⟨u, hu, h1, h2⟩ := h.two q hq x hx y hy hne
    refine ⟨u, hu, h1.imp (fun h3 => by rw [hlv]; exact Nat.le_trans hle h3) id, h2.mono fun z hz => ⟨hz.1.imp id fun h4 => ⟨h4.1, h4.2.imp (fun h3 => by rw [hlv]; exact Nat.le_trans hle h3) id⟩, hz.2⟩⟩
theorem PV.edge' {Dw : Nat → Prop} (k : PV R A p s s1 v Dw rest nb) (hD : ∀ y, adj R v y → Dw y) : ∀ x, s.ent x = 0 → 0 < s1.ent x → ∀ y, adj R x y → (s.ent y = 0 ∧ 0 < s1.ent y) ∨ (y ∈ A ∧ (s1.low v ≤ s1.ent y ∨ (y : Int) = p)) := fun x hx hx1 y hy => by
  rcases k.edge x hx hx1 y hy with ⟨rfl, h2⟩ | h
  · exact absurd (hD y hy) h2
  · exact h
theorem PV.pre (h : PV R A p s s1 v D rest nb) (pre : Pre R A s) (bi : ∀ j, s.ent j ≤ s.time) : Pre R (v :: A) s1 := by
  refine ⟨fun a ha => ?_, ?_, fun x hx hxA y hy => ?_⟩
  · rcases List.mem_cons.1 ha with rfl | ha
    · rw [h.entv]; omega
    · rw [h.ent a (pre.act a ha)]; exact pre.act a ha
  · rw [List.pairwise_cons]
    refine ⟨fun a ha => ?_, ?_⟩
    · rw [h.entv, h.ent a (pre.act a ha)]
      have := bi a
      omega
    · refine List.Pairwise.imp_of_mem (fun {a b} ha hb hab => ?_) pre.ord
      rw [h.ent a (pre.act a ha), h.ent b (pre.act b hb)]
      exact hab
  · rw [List.mem_cons, not_or] at hxA
    rcases Nat.eq_zero_or_pos (s.ent x) with h1 | h1
    · rcases h.edge x h1 hx y hy with ⟨h2, -⟩ | h2 | ⟨h2, -⟩
      · exact absurd h2 hxA.1
      · exact h2.2
      · rw [h.ent y (pre.act y h2)]; exact pre.act y h2
    · have := pre.clo x h1 hxA.2 y hy
      rw [h.ent y this]; exact this
theorem PV.clo {Dw : Nat → Prop} (k : PV R A p s s1 v Dw rest nb) (pre : Pre R A s) (hD : ∀ y, adj R v y → Dw y) : Pre R A s1 := by
  refine ⟨fun a ha => by rw [k.ent a (pre.act a ha)]; exact pre.act a ha, ?_, fun x hx hxA y hy => ?_⟩
  · refine List.Pairwise.imp_of_mem (fun {a b} ha hb hab => ?_) pre.ord
    rw [k.ent a (pre.act a ha), k.ent b (pre.act b hb)]
    exact hab
  · rcases Nat.eq_zero_or_pos (s.ent x) with h1 | h1
    · rcases k.edge' hD x h1 hx y hy with h2 | ⟨h2, -⟩
      · exact h2.2
      · rw [k.ent y (pre.act y h2)]; exact pre.act y h2
    · have := pre.clo x h1 hxA y hy
      rw [k.ent y this]; exact this
section
variable {Dw : Nat → Prop}
theorem PV.merge (h : PV R A p s s1 v D rest nb) (hs : ∀ a b, adj R a b → adj R b a) (pre : Pre R A s) (hpa : Par R A p v) (hvw : adj R v w) (hw : s1.ent w = 0)
    (k : PV R (v :: A) v s1 s2 w Dw rest2 nb2) (hD : ∀ y, adj R w y → Dw y) (hlt : s2.low w < s1.ent v) : PV R A p s (setlow v (min (s2.low v) (s2.low w)) s2) v (fun y => D y ∨ y = w) (rest ++ w :: rest2) (nb ++ nb2) := by
  obtain ⟨hv0, hv1⟩ := h.lt v (by simp)
  have hwv : w ≠ v := fun e => by rw [e] at hw; omega
  have ev : s2.ent v = s1.ent v := k.ent v hv1
  have lv : s2.low v = s1.low v := k.lowo v hv1
  have hlv : (setlow v (min (s2.low v) (s2.low w)) s2).low v = min (s2.low v) (s2.low w) := upd_eq _ _ _
  have hl1 : min (s2.low v) (s2.low w) ≤ s1.low v := by rw [lv]; exact Nat.min_le_left _ _
  have hl2 : min (s2.low v) (s2.low w) ≤ s2.low w := Nat.min_le_right _ _
  have hA0 : ∀ a ∈ A, 0 < s.ent a := pre.act
  have hA1 : ∀ a ∈ A, s2.ent a = s1.ent a := fun a ha => by rw [k.ent a (by rw [h.ent a (hA0 a ha)]; exact hA0 a ha)]
  have hvA : v ∉ A := fun e => by have := hA0 v e; omega
  have hww := (k.lt w (by simp)).2
  have hmono : ∀ x, 0 < s1.ent x → 0 < s2.ent x := fun x hx => by rw [k.ent x hx]; exact hx
  have hzero : ∀ x, s1.ent x = 0 → s.ent x = 0 := fun x hx => by
    rcases Nat.eq_zero_or_pos (s.ent x) with h1 | h1
    · exact h1
    · have := h.ent x h1; omega
  have hsub1 : ∀ z, z ∈ v :: rest → z ∈ v :: (rest ++ w :: rest2) := fun z hz => by
    rcases List.mem_cons.1 hz with rfl | hz
    · simp
    · simp [hz]
  have hsub2 : ∀ z, z ∈ w :: rest2 → z ∈ v :: (rest ++ w :: rest2) := fun z hz => List.mem_cons_of_mem _ (List.mem_append_right _ hz)
  have hcase : ∀ z, z ∈ v :: (rest ++ w :: rest2) → z ∈ v :: rest ∨ z ∈ w :: rest2 := fun z hz => by
    rcases List.mem_cons.1 hz with rfl | hz
    · exact .inl (by simp)
    · rcases List.mem_append.1 hz with hz | hz
      · exact .inl (by simp [hz])
      · exact .inr hz
  -- the vertex of the low of w
  have hlow : ∃ y ∈ w :: rest2, ∃ z ∈ A, s2.ent z = s2.low w ∧ adj R y z := by
    have h1 : s2.low w < s2.ent w := by
      have := k.new w hw hww
      have := h.entv
      have := h.tm
      omega
    obtain ⟨y, hy, z, hz, h2, h3⟩ := k.lowp h1
    rcases List.mem_cons.1 hz with rfl | hz
    · omega
    · exact ⟨y, hy, z, hz, h2, h3⟩
  have hwcon : ∀ y ∈ w :: rest2, ∀ y' ∈ w :: rest2, Lk R (fun z => z ∈ w :: rest2) y y' := fun y hy y' hy' => (k.con y hy).trans ((k.con y' hy').symm hs)
  refine ⟨?_, ?_, fun x hx => ?_, ?_, ?_, fun x hx => ?_, fun x hx => ?_, fun x hx hx1 => ?_, fun x hx hx1 y hy => ?_, fun y hy => ?_, ?_, fun hl => ?_, fun q hq x hx y hy hne => ?_, fun S hS x hSx hx hx1 => ?_, fun b hb => ?_, fun hA => ?_⟩
  · show s2.stack = _
    rw [k.stk, h.stk]; simp
  · show s2.blocks = _
    rw [k.blk, h.blk, List.append_assoc]
  · rcases hcase x hx with h1 | h1
    · exact ⟨(h.lt x h1).1, hmono x (h.lt x h1).2⟩
    · exact ⟨hzero x (k.lt x h1).1, (k.lt x h1).2⟩
  · show s.time + 1 ≤ s2.time
    have := h.tm; have := k.tm; omega
  · show s2.ent v = _
    rw [ev, h.entv]
  · show s2.ent x = s.ent x
    have h1 := h.ent x hx
    rw [k.ent x (by omega), h1]
  · show upd s2.low v _ x = s.low x
    rw [upd_ne (fun e => by rw [e, hv0] at hx; omega)]
    have h1 := h.ent x hx
    rw [k.lowo x (by omega), h.lowo x hx]
  · show s.time < s2.ent x
    rcases Nat.eq_zero_or_pos (s1.ent x) with h1 | h1
    · have := k.new x h1 hx1; have := h.tm; omega
    · rw [k.ent x h1]; exact h.new x hx h1
  · show (x = v ∧ _) ∨ (s.ent y = 0 ∧ 0 < s2.ent y) ∨ (y ∈ A ∧ (upd s2.low v _ v ≤ s2.ent y ∨ _))
    rw [upd_eq]
    rcases Nat.eq_zero_or_pos (s1.ent x) with h1 | h1
    · rcases k.edge' hD x h1 hx1 y hy with h2 | ⟨h2, h3⟩
      · exact .inr (.inl ⟨hzero y h2.1, h2.2⟩)
      · rcases List.mem_cons.1 h2 with rfl | h2
        · exact .inr (.inl ⟨hv0, hmono _ hv1⟩)
        · rcases h3 with h3 | h3
          · exact .inr (.inr ⟨h2, .inl (Nat.le_trans hl2 h3)⟩)
          · exact absurd h2 (by rw [show y = v by omega]; exact hvA)
    · rcases h.edge x hx h1 y hy with ⟨h2, h3⟩ | h2 | ⟨h2, h3⟩
      · by_cases e : y = w
        · exact .inr (.inl ⟨by rw [e]; exact hzero w hw, by rw [e]; exact hww⟩)
        · exact .inl ⟨h2, fun h4 => h4.elim h3 e⟩
      · exact .inr (.inl ⟨h2.1, hmono y h2.2⟩)
      · exact .inr (.inr ⟨h2, h3.imp (fun h4 => by rw [hA1 y h2]; exact Nat.le_trans hl1 h4) id⟩)
  · rcases hcase y hy with h1 | h1
    · exact (h.con y h1).mono hsub1
    · exact ((k.con y h1).mono hsub2).step (hs _ _ hvw) (by simp)
  · rw [hlv]
    show _ ≤ s2.ent v
    rw [ev]
    exact Nat.le_trans hl1 h.low
  · rw [hlv] at hl ⊢
    have hl : min (s2.low v) (s2.low w) < s2.ent v := hl
    rw [ev] at hl
    show ∃ y ∈ v :: (rest ++ w :: rest2), ∃ z ∈ A, s2.ent z = _ ∧ _
    by_cases hc : s2.low w < s2.low v
    · rw [Nat.min_eq_right (by omega)]
      obtain ⟨y, hy, z, hz, h2, h3⟩ := hlow
      exact ⟨y, hsub2 y hy, z, hz, h2, h3⟩
    · have e := Nat.min_eq_left (show s2.low v ≤ s2.low w by omega)
      rw [e, lv] at hl ⊢
      obtain ⟨y, hy, z, hz, h2, h3⟩ := h.lowp hl
      exact ⟨y, hsub1 y hy, z, hz, by rw [hA1 z hz]; exact h2, h3⟩
  · -- without x
    have hqA : q ∈ A ∧ adj R v q := by
      rcases hpa with ⟨-, h1⟩ | ⟨q', A', rfl, h1, h2⟩
      · omega
      · rw [show q = q' by omega]; exact ⟨by simp, h2⟩
    have hG : ∀ z, (z ∈ A ∧ (s1.low v ≤ s1.ent z ∨ z = q)) → (z ∈ A ∧ ((setlow v (min (s2.low v) (s2.low w)) s2).low v ≤ (setlow v (min (s2.low v) (s2.low w)) s2).ent z ∨ z = q)) := fun z hz => ⟨hz.1, hz.2.imp (fun h1 => by
      rw [hlv]; show _ ≤ s2.ent z; rw [hA1 z hz.1]; exact Nat.le_trans hl1 h1) id⟩
    have hG2 : ∀ z, z ∈ A → s2.low w ≤ s2.ent z → (z ∈ A ∧ ((setlow v (min (s2.low v) (s2.low w)) s2).low v ≤ (setlow v (min (s2.low v) (s2.low w)) s2).ent z ∨ z = q)) := fun z hz h1 => ⟨hz, .inl (by rw [hlv]; exact Nat.le_trans hl2 h1)⟩
    have hxq : x ≠ q := fun e => by
      have h1 := hA0 q hqA.1
      rcases hcase x hx with h2 | h2
      · have := (h.lt x h2).1; rw [e] at this; omega
      · have := hzero x (k.lt x h2).1; rw [e] at this; omega
    -- v is linked to q
    have hvq : ∀ {y}, Lk R (fun z => (z ∈ v :: (rest ++ w :: rest2) ∨ (z ∈ A ∧ ((setlow v (min (s2.low v) (s2.low w)) s2).low v ≤ (setlow v (min (s2.low v) (s2.low w)) s2).ent z ∨ z = q))) ∧ z ≠ x) y v → ∃ u ∈ A, ((setlow v (min (s2.low v) (s2.low w)) s2).low v ≤ (setlow v (min (s2.low v) (s2.low w)) s2).ent u ∨ u = q) ∧ Lk R (fun z => (z ∈ v :: (rest ++ w :: rest2) ∨ (z ∈ A ∧ ((setlow v (min (s2.low v) (s2.low w)) s2).low v ≤ (setlow v (min (s2.low v) (s2.low w)) s2).ent z ∨ z = q))) ∧ z ≠ x) y u := fun hl => ⟨q, hqA.1, .inr rfl, hl.step hqA.2 ⟨.inr ⟨hqA.1, .inr rfl⟩, fun e => hxq e.symm⟩⟩
    rcases hcase y hy with hy1 | hy1
    · rcases hcase x hx with hx1 | hx1
      · obtain ⟨u, hu, h1, h2⟩ := h.two q hq x hx1 y hy1 hne
        exact ⟨u, hu, (hG u ⟨hu, h1⟩).2, h2.mono fun z hz => ⟨hz.1.imp (hsub1 z) (hG z), hz.2⟩⟩
      · refine hvq ((h.con y hy1).mono fun z hz => ⟨.inl (hsub1 z hz), fun e => ?_⟩)
        have h3 := (h.lt z hz).2
        have h4 := (k.lt x hx1).1
        rw [e] at h3; omega
    · rcases hcase x hx with hx1 | hx1
      · have hLx : ∀ z, z ∈ w :: rest2 → z ≠ x := fun z hz e => by
          have h3 := (k.lt z hz).1
          have h4 := (h.lt x hx1).2
          rw [e] at h3; omega
        by_cases exv : x = v
        · obtain ⟨y0, hy0, z0, hz0, h2, h3⟩ := hlow
          have hgz := hG2 z0 hz0 (by omega)
          refine ⟨z0, hz0, hgz.2, ((hwcon y hy1 y0 hy0).mono fun z hz => ⟨.inl (hsub2 z hz), hLx z hz⟩).step h3 ⟨.inr hgz, fun e => ?_⟩⟩
          rw [e, exv] at hz0
          exact hvA hz0
        · refine hvq ((((k.con y hy1).mono fun z hz => ⟨.inl (hsub2 z hz), hLx z hz⟩)).step (hs _ _ hvw) ⟨.inl (by simp), fun e => exv e.symm⟩)
      · have hxv : x ≠ v := fun e => by have := (k.lt x hx1).1; rw [e] at this; omega
        obtain ⟨u, hu, h1, h2⟩ := k.two v rfl x hx1 y hy1 hne
        have hinc : ∀ z, ((z ∈ w :: rest2 ∨ (z ∈ v :: A ∧ (s2.low w ≤ s2.ent z ∨ z = v))) ∧ z ≠ x) → ((z ∈ v :: (rest ++ w :: rest2) ∨ (z ∈ A ∧ ((setlow v (min (s2.low v) (s2.low w)) s2).low v ≤ (setlow v (min (s2.low v) (s2.low w)) s2).ent z ∨ z = q))) ∧ z ≠ x) := fun z hz => by
          refine ⟨?_, hz.2⟩
          rcases hz.1 with h3 | ⟨h3, h4⟩
          · exact .inl (hsub2 z h3)
          · rcases List.mem_cons.1 h3 with rfl | h3
            · exact .inl (by simp)
            · rcases h4 with h4 | h4
              · exact .inr (hG2 z h3 h4)
              · exact .inl (by rw [h4]; simp)
        rcases List.mem_cons.1 hu with rfl | hu
        · exact hvq (h2.mono hinc)
        · rcases h1 with h1 | h1
          · exact ⟨u, hu, (hG2 u hu h1).2, h2.mono hinc⟩
          · exact absurd hu (by rw [h1]; exact hvA)
  · have hx1 : 0 < s2.ent x := hx1
    show (∃ b ∈ nb ++ nb2, _) ∨ ∀ z, S z → s.ent z = 0 → 0 < s2.ent z → _
    by_cases hb1 : ∃ b ∈ nb, ∀ z, S z → z ∈ b
    · obtain ⟨b, hb, h1⟩ := hb1
      exact .inl ⟨b, List.mem_append_left _ hb, h1⟩
    by_cases hb2 : ∃ b ∈ nb2, ∀ z, S z → z ∈ b
    · obtain ⟨b, hb, h1⟩ := hb2
      exact .inl ⟨b, List.mem_append_right _ hb, h1⟩
    refine .inr fun z hSz hz hz2 => ?_
    rcases Nat.eq_zero_or_pos (s1.ent z) with h1 | h1
    · rcases k.key S hS z hSz h1 hz2 with h2 | h2
      · exact absurd h2 hb2
      · exact hsub2 z (h2 z hSz h1 hz2)
    · rcases h.key S hS z hSz hz h1 with h2 | h2
      · exact absurd h2 hb1
      · exact hsub1 z (h2 z hSz hz h1)
  · rcases List.mem_append.1 hb with hb | hb
    · exact h.ns b hb
    · exact k.ns b hb
  · obtain ⟨y, -, z, hz, -⟩ := hlow
    rw [hA] at hz
    cases hz
theorem PV.emit (h : PV R A p s s1 v D rest nb) (hs : ∀ a b, adj R a b → adj R b a) (pre : Pre R A s) (bi : ∀ j, s.ent j ≤ s.time) (hvw : adj R v w) (hw : s1.ent w = 0)
    (k : PV R (v :: A) v s1 s2 w Dw rest2 nb2) (hD : ∀ y, adj R w y → Dw y) (hlt : ¬ s2.low w < s1.ent v) (hnd : s2.stack.Nodup) (h512 : ∀ x ∈ s2.stack, x < 512) :
    PV R A p s (cut v w (setlow v (min (s2.low v) (s2.low w)) s2)) v (fun y => D y ∨ y = w) rest (nb ++ nb2 ++ [srt (v :: w :: rest2)]) := by
  obtain ⟨hv0, hv1⟩ := h.lt v (by simp)
  have hwv : w ≠ v := fun e => by rw [e] at hw; omega
  have ev : s2.ent v = s1.ent v := k.ent v hv1
  have lv : s2.low v = s1.low v := k.lowo v hv1
  have hml : min (s2.low v) (s2.low w) = s1.low v := by rw [lv]; have := h.low; exact Nat.min_eq_left (by omega)
  have hlv : (cut v w (setlow v (min (s2.low v) (s2.low w)) s2)).low v = s1.low v := by
    show upd s2.low v _ v = _
    rw [upd_eq, hml]
  have hA0 : ∀ a ∈ A, 0 < s.ent a := pre.act
  have hA1 : ∀ a ∈ A, s2.ent a = s1.ent a := fun a ha => by rw [k.ent a (by rw [h.ent a (hA0 a ha)]; exact hA0 a ha)]
  have hA2 : ∀ a ∈ A, s2.ent a < s1.ent v := fun a ha => by
    rw [hA1 a ha, h.ent a (hA0 a ha), h.entv]
    have := bi a
    omega
  have hvA : v ∉ A := fun e => by have := hA0 v e; omega
  have hww := (k.lt w (by simp)).2
  have hmono : ∀ x, 0 < s1.ent x → 0 < s2.ent x := fun x hx => by rw [k.ent x hx]; exact hx
  have hzero : ∀ x, s1.ent x = 0 → s.ent x = 0 := fun x hx => by
    rcases Nat.eq_zero_or_pos (s.ent x) with h1 | h1
    · exact h1
    · have := h.ent x h1; omega
  have hwS : w ∉ s1.stack := fun e => by
    rw [k.stk, List.nodup_append] at hnd
    exact hnd.2.2 w e w (by simp) rfl
  have hidx : s2.stack.idxOf w = s1.stack.length := by
    rw [k.stk, List.idxOf_append, if_neg hwS, List.idxOf_cons]
    simp
  have hpop : popd w (setlow v (min (s2.low v) (s2.low w)) s2) = w :: rest2 := by
    show s2.stack.drop (s2.stack.idxOf w) = _
    rw [hidx, k.stk, List.drop_left]
  have htake : s2.stack.take (s2.stack.idxOf w) = s1.stack := by rw [hidx, k.stk, List.take_left]
  have hBm : ∀ x, x ∈ srt (v :: w :: rest2) ↔ x ∈ v :: w :: rest2 := fun x => srt_mem (fun y hy => by
    rcases List.mem_cons.1 hy with rfl | hy
    · exact h512 y (by rw [k.stk, h.stk]; simp)
    · exact h512 y (by rw [k.stk]; exact List.mem_append_right _ hy))
  have hwcon : ∀ y ∈ w :: rest2, ∀ y' ∈ w :: rest2, Lk R (fun z => z ∈ w :: rest2) y y' := fun y hy y' hy' => (k.con y hy).trans ((k.con y' hy').symm hs)
  have hvL : v ∉ w :: rest2 := fun e => by have := (k.lt v e).1; omega
  -- the edges that leave the part behind w go to v
  have hout : ∀ x, s1.ent x = 0 → 0 < s2.ent x → ∀ y, adj R x y → (s1.ent y = 0 ∧ 0 < s2.ent y) ∨ y = v := fun x hx hx1 y hy => by
    rcases k.edge' hD x hx hx1 y hy with h2 | ⟨h2, h3⟩
    · exact .inl h2
    · rcases List.mem_cons.1 h2 with h4 | h2
      · exact .inr h4
      · rcases h3 with h3 | h3
        · have := hA2 y h2; omega
        · exact .inr (by omega)
  -- the new block
  have hcon : ∀ y, y ∈ srt (v :: w :: rest2) → Lk R (fun z => z ∈ srt (v :: w :: rest2)) y v := fun y hy => by
    have hv : v ∈ srt (v :: w :: rest2) := (hBm v).2 (by simp)
    rcases List.mem_cons.1 ((hBm y).1 hy) with rfl | hy
    · exact .refl hv
    · exact ((k.con y hy).mono fun z hz => (hBm z).2 (List.mem_cons_of_mem _ hz)).step (hs _ _ hvw) hv
  have hns : NS R (fun z => z ∈ srt (v :: w :: rest2)) := by
    refine ⟨conn_of hs v hcon, fun x => ?_⟩
    by_cases hxB : x ∈ v :: w :: rest2
    · rcases List.mem_cons.1 hxB with rfl | hxL
      · refine conn_of hs w fun y hy => ?_
        have hy2 : y ∈ w :: rest2 := by
          rcases List.mem_cons.1 ((hBm y).1 hy.1) with e | h1
          · exact absurd e hy.2
          · exact h1
        exact (k.con y hy2).mono fun z hz => ⟨(hBm z).2 (List.mem_cons_of_mem _ hz), fun e => hvL (e ▸ hz)⟩
      · have hxv : v ≠ x := fun e => hvL (e ▸ hxL)
        refine conn_of hs v fun y hy => ?_
        rcases List.mem_cons.1 ((hBm y).1 hy.1) with rfl | hy2
        · exact .refl ⟨(hBm _).2 (by simp), hxv⟩
        · obtain ⟨u, hu, h1, h2⟩ := k.two v rfl x hxL y hy2 hy.2
          have huv : u = v := by
            rcases List.mem_cons.1 hu with e | hu
            · exact e
            · rcases h1 with h1 | h1
              · have := hA2 u hu; omega
              · exact h1
          rw [huv] at h2
          refine h2.mono fun z hz => ⟨(hBm z).2 ?_, hz.2⟩
          rcases hz.1 with h3 | ⟨h3, h4⟩
          · exact List.mem_cons_of_mem _ h3
          · rcases List.mem_cons.1 h3 with rfl | h3
            · simp
            · rcases h4 with h4 | h4
              · have := hA2 z h3; omega
              · rw [h4]; simp
    · refine conn_of hs v fun y hy => (hcon y hy.1).mono fun z hz => ⟨hz, fun e => hxB ((hBm x).1 (e ▸ hz))⟩
  have hsrt : srt (v :: popd w (setlow v (min (s2.low v) (s2.low w)) s2)) = srt (v :: w :: rest2) := by rw [hpop]
  refine ⟨?_, ?_, fun x hx => ?_, ?_, ?_, fun x hx => ?_, fun x hx => ?_, fun x hx hx1 => ?_, fun x hx hx1 y hy => ?_, h.con, ?_, fun hl => ?_, fun q hq x hx y hy hne => ?_, fun S hS x hSx hx hx1 => ?_, fun b hb => ?_, h.root⟩
  · show s2.stack.take (s2.stack.idxOf w) = _
    rw [htake, h.stk]
  · show s2.blocks ++ [srt (v :: popd w (setlow v (min (s2.low v) (s2.low w)) s2))] = _
    rw [hsrt, k.blk, h.blk]; simp
  · exact ⟨(h.lt x hx).1, hmono x (h.lt x hx).2⟩
  · show s.time + 1 ≤ s2.time
    have := h.tm; have := k.tm; omega
  · show s2.ent v = _
    rw [ev, h.entv]
  · show s2.ent x = s.ent x
    have h1 := h.ent x hx
    rw [k.ent x (by omega), h1]
  · show upd s2.low v _ x = s.low x
    rw [upd_ne (fun e => by rw [e, hv0] at hx; omega)]
    have h1 := h.ent x hx
    rw [k.lowo x (by omega), h.lowo x hx]
  · show s.time < s2.ent x
    rcases Nat.eq_zero_or_pos (s1.ent x) with h1 | h1
    · have := k.new x h1 hx1; have := h.tm; omega
    · rw [k.ent x h1]; exact h.new x hx h1
  · rw [hlv]
    show (x = v ∧ _) ∨ (s.ent y = 0 ∧ 0 < s2.ent y) ∨ (y ∈ A ∧ (_ ≤ s2.ent y ∨ _))
    rcases Nat.eq_zero_or_pos (s1.ent x) with h1 | h1
    · rcases hout x h1 hx1 y hy with h2 | h2
      · exact .inr (.inl ⟨hzero y h2.1, h2.2⟩)
      · rw [h2]; exact .inr (.inl ⟨hv0, hmono v hv1⟩)
    · rcases h.edge x hx h1 y hy with ⟨h2, h3⟩ | h2 | ⟨h2, h3⟩
      · by_cases e : y = w
        · exact .inr (.inl ⟨by rw [e]; exact hzero w hw, by rw [e]; exact hww⟩)
        · exact .inl ⟨h2, fun h4 => h4.elim h3 e⟩
      · exact .inr (.inl ⟨h2.1, hmono y h2.2⟩)
      · exact .inr (.inr ⟨h2, by rw [hA1 y h2]; exact h3⟩)
  · rw [hlv]
    show _ ≤ s2.ent v
    rw [ev]
    exact h.low
  · rw [hlv] at hl ⊢
    have hl : s1.low v < s2.ent v := hl
    rw [ev] at hl
    obtain ⟨y, hy, z, hz, h2, h3⟩ := h.lowp hl
    exact ⟨y, hy, z, hz, by show s2.ent z = _; rw [hA1 z hz]; exact h2, h3⟩
  · obtain ⟨u, hu, h1, h2⟩ := h.two q hq x hx y hy hne
    rw [hlv]
    refine ⟨u, hu, ?_, h2.mono fun z hz => ⟨hz.1.imp id fun h4 => ⟨h4.1, ?_⟩, hz.2⟩⟩
    · show _ ≤ s2.ent u ∨ _
      rw [hA1 u hu]; exact h1
    · show _ ≤ s2.ent z ∨ _
      rw [hA1 z h4.1]; exact h4.2
  · have hx1 : 0 < s2.ent x := hx1
    show (∃ b ∈ nb ++ nb2 ++ [srt (v :: w :: rest2)], _) ∨ ∀ z, S z → s.ent z = 0 → 0 < s2.ent z → _
    by_cases hb1 : ∃ b ∈ nb, ∀ z, S z → z ∈ b
    · obtain ⟨b, hb, h1⟩ := hb1
      exact .inl ⟨b, by simp [hb], h1⟩
    by_cases hb2 : ∃ b ∈ nb2, ∀ z, S z → z ∈ b
    · obtain ⟨b, hb, h1⟩ := hb2
      exact .inl ⟨b, by simp [hb], h1⟩
    by_cases hT : ∃ z, S z ∧ s1.ent z = 0 ∧ 0 < s2.ent z
    · obtain ⟨z0, hz0, hz1, hz2⟩ := hT
      have hL := (k.key S hS z0 hz0 hz1 hz2).resolve_left hb2
      refine .inl ⟨srt (v :: w :: rest2), by simp, fun z hz => (hBm z).2 ?_⟩
      by_cases hzv : z = v
      · rw [hzv]; simp
      · refine List.mem_cons_of_mem _ ?_
        have hst := Lk.stay (C := fun y => s1.ent y = 0 ∧ 0 < s2.ent y) (fun a b ha _ hab hb => (hout a ha.1 ha.2 b hab).resolve_right hb.2) ⟨hz1, hz2⟩ (hS.2 v z0 z ⟨hz0, fun e => by rw [e] at hz1; omega⟩ ⟨hz, hzv⟩)
        exact hL z hz hst.1 hst.2
    · have hT2 : ∀ z, S z → 0 < s2.ent z → 0 < s1.ent z := fun z hz hz2 => by
        rcases Nat.eq_zero_or_pos (s1.ent z) with h1 | h1
        · exact absurd ⟨z, hz, h1, hz2⟩ hT
        · exact h1
      have hL := (h.key S hS x hSx hx (hT2 x hSx hx1)).resolve_left hb1
      exact .inr fun z hz hz0 hz2 => hL z hz hz0 (hT2 z hz hz2)
  · rcases List.mem_append.1 hb with hb | hb
    · rcases List.mem_append.1 hb with hb | hb
      · exact h.ns b hb
      · exact k.ns b hb
    · rw [List.mem_singleton.1 hb]
      exact ⟨hns, v, w, (hBm v).2 (by simp), (hBm w).2 (by simp), fun e => hwv e.symm⟩
end
end
theorem fold_pv {R A : List Nat} {p : Int} {s : Bk} {n v f : Nat} {vis : Nat → Int → Bk → Bk} (hs : ∀ a b, adj R a b → adj R b a) (hn : n ≤ 512) (pre : Pre R A s) (bi : ∀ j, s.ent j ≤ s.time) (hpa : Par R A p v) (hadj : ∀ w, adj R v w → w < n)
    (hvi : ∀ w s1, w < n → BI n s1 → s1.ent w = 0 → left n s1 ≤ f → VI n s1 (vis w v s1) w)
    (hpv : ∀ w s1, adj R v w → BI n s1 → s1.ent w = 0 → left n s1 ≤ f → Pre R (v :: A) s1 → ∃ D rest nb, PV R (v :: A) v s1 (vis w v s1) w D rest nb ∧ ∀ y, adj R w y → D y) :
    ∀ (l : List Nat) (s1 : Bk) (D : Nat → Prop) (rest : List Nat) (nb : List (List Nat)), (∀ w ∈ l, adj R v w) → left n s1 ≤ f → VI n s s1 v → PV R A p s s1 v D rest nb → ∃ D' rest' nb', PV R A p s (l.foldl (stepB vis v p) s1) v D' rest' nb' ∧ ∀ y, D y ∨ y ∈ l → D' y
  | [], s1, D, rest, nb, _, _, _, h => ⟨D, rest, nb, h, fun y hy => hy.elim id (fun h => by cases h)⟩
  | w :: l, s1, D, rest, nb, hl, hf, vi, h => by
    have hvw := hl w (by simp)
    have hwn := hadj w hvw
    have h1 := fold_vi (p := p) (f := f) hvi [w] s1 (fun x hx => by rw [List.mem_singleton.1 hx]; exact hwn) hf vi
    rw [List.foldl_cons, List.foldl_nil] at h1
    rw [List.foldl_cons]
    have key : ∃ rest2 nb2, PV R A p s (stepB vis v p s1 w) v (fun y => D y ∨ y = w) rest2 nb2 := by
      unfold stepB
      by_cases hp : (w : Int) = p
      · rw [if_pos hp]
        exact ⟨rest, nb, h.skip hp hpa⟩
      rw [if_neg hp]
      by_cases hw : 0 < s1.ent w
      · rw [if_pos hw]
        exact ⟨rest, nb, h.seen hs pre hvw hw⟩
      rw [if_neg hw]
      have hw0 : s1.ent w = 0 := by omega
      obtain ⟨Dw, rest2, nb2, k, hD⟩ := hpv w s1 hvw vi.bi hw0 hf (h.pre pre bi)
      have vw := hvi w s1 hwn vi.bi hw0 hf
      generalize vis w v s1 = s2 at *
      have hv1 := (h.lt v (by simp)).2
      have hwv : w ≠ v := fun e => by rw [e] at hw0; omega
      unfold fin
      dsimp only
      have e1 : (setlow v (min (s2.low v) (s2.low w)) s2).low w = s2.low w := upd_ne hwv
      have e2 : (setlow v (min (s2.low v) (s2.low w)) s2).ent v = s1.ent v := k.ent v hv1
      rw [e1, e2]
      by_cases hlt : s2.low w < s1.ent v
      · rw [if_pos hlt]
        exact ⟨_, _, h.merge hs pre hpa hvw hw0 k hD hlt⟩
      · rw [if_neg hlt]
        exact ⟨_, _, h.emit hs pre bi hvw hw0 k hD hlt vw.bi.nd (fun x hx => by have := (vw.bi.mem x hx).1; omega)⟩
    obtain ⟨rest2, nb2, h2⟩ := key
    obtain ⟨D', rest', nb', h3, h4⟩ := fold_pv hs hn pre bi hpa hadj hvi hpv l _ _ rest2 nb2 (fun x hx => hl x (by simp [hx])) h1.2 h1.1 h2
    refine ⟨D', rest', nb', h3, fun y hy => h4 y ?_⟩
    rcases hy with hy | hy
    · exact .inl (.inl hy)
    · rcases List.mem_cons.1 hy with e | hy
      · exact .inl (.inr e)
      · exact .inr hy
theorem visit_pv {R : List Nat} {n : Nat} (hR : ∀ v w, (row R v).testBit w = true → w < n) (hn : n ≤ 512) (hs : ∀ a b, adj R a b → adj R b a) : ∀ (f v : Nat) (p : Int) (A : List Nat) (s : Bk), v < n → BI n s → s.ent v = 0 → left n s ≤ f → Pre R A s → Par R A p v → ∃ D rest nb, PV R A p s (visit R f v p s) v D rest nb ∧ ∀ y, adj R v y → D y
  | 0, v, p, A, s, hv, h, h0, hf, _, _ => by
    have := left_enter hv h0
    omega
  | f + 1, v, p, A, s, hv, h, h0, hf, pre, hpa => by
    have h1 := left_enter hv h0
    have hfit : Fit (row R v) := fun i hi => by cases hc : (row R v).testBit i with | false => rfl | true => have := hR v i hc; omega
    obtain ⟨D, rest, nb, h2, h3⟩ := fold_pv (f := f) hs hn pre h.ent hpa (fun w hw => hR v w hw) (fun w s1 hw hb h0' hf' => visit_vi hR hn f w v s1 hw hb h0' hf')
      (fun w s1 hvw hb h0' hf' hpre => visit_pv hR hn hs f w v (v :: A) s1 (hR v w hvw) hb h0' hf' hpre (.inr ⟨v, A, rfl, rfl, hs _ _ hvw⟩))
      (els (row R v) 0) (enter v s) (fun _ => False) [] [] (fun w hw => (mem_els hfit).1 hw) (by omega) (VI.enter h hv h0) (PV.start h0)
    exact ⟨D, rest, nb, h2, fun y hy => h3 y (.inr ((mem_els hfit).2 hy))⟩
structure GBI (R : List Nat) (s : Bk) : Prop where
  clo : Pre R [] s
  cov : ∀ S, NS R S → (∃ a b, S a ∧ S b ∧ a ≠ b) → ∀ x, S x → 0 < s.ent x → ∃ b ∈ s.blocks, ∀ z, S z → z ∈ b
  ns : ∀ b ∈ s.blocks, NS R (fun z => z ∈ b) ∧ ∃ x y, x ∈ b ∧ y ∈ b ∧ x ≠ y
theorem upto_gb {R : List Nat} (hR : ∀ v w, (row R v).testBit w = true → w < R.length) (hn : R.length ≤ 512) (hs : ∀ a b, adj R a b → adj R b a) : ∀ k, k ≤ R.length → GBI R (upto R k) ∧ ∀ j, j < k → 0 < (upto R k).ent j
  | 0, _ => ⟨⟨⟨fun a ha => (by cases ha), List.Pairwise.nil, fun x hx => absurd hx (by simp [upto, start])⟩, fun S _ _ x _ hx => absurd hx (by simp [upto, start]), fun b hb => absurd hb (by simp [upto, start])⟩, fun j hj => absurd hj (by omega)⟩
  | k + 1, hk => by
    obtain ⟨g, he⟩ := upto_gb hR hn hs k (by omega)
    obtain ⟨b1, -, b3⟩ := upto_ok hR hn k (by omega)
    unfold upto
    dsimp only
    split
    · rename_i h0
      have hl : left R.length (upto R k) ≤ R.length := by have := b1.ct; omega
      obtain ⟨D, rest, nb, h, hD⟩ := visit_pv hR hn hs R.length k (-1) [] _ (by omega) b1 h0 hl g.clo (.inl ⟨rfl, rfl⟩)
      generalize upto R k = s at *
      generalize visit R R.length k (-1) s = s1 at *
      have hrest := h.root rfl
      subst hrest
      have hcl := h.clo g.clo hD
      refine ⟨⟨⟨hcl.act, hcl.ord, hcl.clo⟩, fun S hS h2 x hx hx1 => ?_, fun b hb => ?_⟩, fun j hj => ?_⟩
      · show ∃ b ∈ s1.blocks, _
        rw [h.blk]
        rcases Nat.eq_zero_or_pos (s.ent x) with h3 | h3
        · rcases h.key S hS x hx h3 hx1 with ⟨b, hb, h4⟩ | h4
          · exact ⟨b, List.mem_append_right _ hb, h4⟩
          · exfalso
            have hall : ∀ z, S z → z = k := fun z hz => by
              have hst := Lk.stay (C := fun y => s.ent y = 0 ∧ 0 < s1.ent y) (fun a b ha _ hab _ => by
                rcases h.edge' hD a ha.1 ha.2 b hab with h5 | ⟨h5, -⟩
                · exact h5
                · cases h5) ⟨h3, hx1⟩ (hS.1 x z hx hz)
              exact List.mem_singleton.1 (h4 z hz hst.1 hst.2)
            obtain ⟨a, b, ha, hb, hne⟩ := h2
            exact hne ((hall a ha).trans (hall b hb).symm)
        · obtain ⟨b, hb, h4⟩ := g.cov S hS h2 x hx h3
          exact ⟨b, List.mem_append_left _ hb, h4⟩
      · have hb : b ∈ s1.blocks := hb
        rw [h.blk] at hb
        rcases List.mem_append.1 hb with hb | hb
        · exact g.ns b hb
        · exact h.ns b hb
      · show 0 < s1.ent j
        by_cases e : j = k
        · rw [e, h.entv]; omega
        · rw [h.ent j (he j (by omega))]; exact he j (by omega)
    · rename_i h0
      refine ⟨g, fun j hj => ?_⟩
      by_cases e : j = k
      · rw [e]; omega
      · exact he j (by omega)
def Sh (a b : List Nat) : Prop := ∃ u, ∀ x, x ∈ a → x ∈ b → x = u
theorem cut_pw {n v w : Nat} {s : Bk} (d : DI s) (pw : s.blocks.Pairwise Sh) (bi : BI n s) (hn : n ≤ 512) (hv : v < n) (hvs : v ∈ s.stack) : (cut v w s).blocks.Pairwise Sh := by
  show (s.blocks ++ [srt (v :: popd w s)]).Pairwise Sh
  have hmem : ∀ x ∈ v :: popd w s, x < 512 := fun x hx => by
    rcases List.mem_cons.1 hx with e | hx
    · omega
    · have := (bi.mem x (List.mem_of_mem_drop hx)).1
      omega
  rw [List.pairwise_append]
  refine ⟨pw, List.pairwise_singleton _ _, fun a ha b hb => ?_⟩
  rw [List.mem_singleton.1 hb]
  obtain ⟨u, hu⟩ := d.don a ha
  refine ⟨u, fun x hx hx2 => (hu x hx).resolve_right fun h => h.2 ?_⟩
  rcases List.mem_cons.1 ((srt_mem hmem).1 hx2) with rfl | h3
  · exact hvs
  · exact List.mem_of_mem_drop h3
theorem fin_pw {n v w : Nat} {s s1 s2 : Bk} (hn : n ≤ 512) (hv : v < n) (h : VI n s s1 v) (hw : VI n s1 s2 w) (d : DI s2) (pw : s2.blocks.Pairwise Sh) : (fin v w s2).blocks.Pairwise Sh := by
  obtain ⟨rest, hr⟩ := h.stk
  obtain ⟨rest2, hr2⟩ := hw.stk
  have hl : BI n (setlow v (min (s2.low v) (s2.low w)) s2) := hw.bi.setlow (by have := hw.bi.low v; omega)
  unfold fin
  dsimp only
  split
  · exact pw
  · exact cut_pw d.setlow pw hl hn hv (by show v ∈ s2.stack; rw [hr2, hr]; simp)
theorem fold_pw {n v : Nat} {p : Int} {s : Bk} {vis : Nat → Int → Bk → Bk} {f : Nat} (hn : n ≤ 512) (hv : v < n) (hvis : ∀ w s1, w < n → BI n s1 → s1.ent w = 0 → left n s1 ≤ f → VI n s1 (vis w v s1) w) (hd : ∀ w s1, w < n → BI n s1 → s1.ent w = 0 → left n s1 ≤ f → DI s1 → DI (vis w v s1)) (hp : ∀ w s1, w < n → BI n s1 → s1.ent w = 0 → left n s1 ≤ f → DI s1 → s1.blocks.Pairwise Sh → (vis w v s1).blocks.Pairwise Sh) :
    ∀ (l : List Nat) (s1 : Bk), (∀ w ∈ l, w < n) → left n s1 ≤ f → VI n s s1 v → DI s1 → s1.blocks.Pairwise Sh → (l.foldl (stepB vis v p) s1).blocks.Pairwise Sh
  | [], _, _, _, _, _, h => h
  | w :: l, s1, hl, hf, h, d, pw => by
    have hw := hl w (by simp)
    have h1 := fold_vi (p := p) hvis [w] s1 (fun x hx => by rw [List.mem_singleton.1 hx]; exact hw) hf h
    have d1 := fold_di (p := p) hn hv hvis hd [w] s1 (fun x hx => by rw [List.mem_singleton.1 hx]; exact hw) hf h d
    rw [List.foldl_cons, List.foldl_nil] at h1 d1
    rw [List.foldl_cons]
    refine fold_pw hn hv hvis hd hp l _ (fun x hx => hl x (by simp [hx])) h1.2 h1.1 d1 ?_
    unfold stepB
    split
    · exact pw
    · split
      · exact pw
      · rename_i h3
        exact fin_pw hn hv h (hvis w s1 hw h.bi (by omega) hf) (hd w s1 hw h.bi (by omega) hf d) (hp w s1 hw h.bi (by omega) hf d pw)
theorem visit_pw {R : List Nat} {n : Nat} (hR : ∀ v w, (row R v).testBit w = true → w < n) (hn : n ≤ 512) : ∀ (f v : Nat) (p : Int) (s : Bk), v < n → BI n s → s.ent v = 0 → left n s ≤ f → DI s → s.blocks.Pairwise Sh → (visit R f v p s).blocks.Pairwise Sh
  | 0, _, _, _, _, _, _, _, _, h => h
  | f + 1, v, p, s, hv, h, h0, hf, d, pw => by
    have h1 := left_enter hv h0
    refine fold_pw (f := f) hn hv (fun w s1 hw hb h0' hf' => visit_vi hR hn f w v s1 hw hb h0' hf') (fun w s1 hw hb h0' hf' => visit_di hR hn f w v s1 hw hb h0' hf') (fun w s1 hw hb h0' hf' => visit_pw hR hn f w v s1 hw hb h0' hf') _ _ (fun w hw => hR v w ?_) (by omega) (VI.enter h hv h0) (d.enter h0) pw
    rw [mem_els (fun i hi => by cases hc : (row R v).testBit i with | false => rfl | true => have := hR v i hc; omega)] at hw
    exact hw
theorem upto_pw {R : List Nat} (hR : ∀ v w, (row R v).testBit w = true → w < R.length) (hn : R.length ≤ 512) : ∀ k, k ≤ R.length → (upto R k).blocks.Pairwise Sh
  | 0, _ => List.Pairwise.nil
  | k + 1, hk => by
    obtain ⟨h1, h2, -⟩ := upto_ok hR hn k (by omega)
    have pw := upto_pw hR hn k (by omega)
    unfold upto
    dsimp only
    split
    · rename_i h0
      have hl : left R.length (upto R k) ≤ R.length := by have := h1.ct; omega
      exact visit_pw hR hn R.length k (-1) _ (by omega) h1 h0 hl h2 pw
    · exact pw
structure IsB (R : List Nat) (F : List (List Nat)) : Prop where
  ns : ∀ b ∈ F, NS R (fun z => z ∈ b) ∧ ∃ x y, x ∈ b ∧ y ∈ b ∧ x ≠ y
  cov : ∀ S, NS R S → (∃ a b, S a ∧ S b ∧ a ≠ b) → (∀ x, S x → x < R.length) → ∃ b ∈ F, ∀ z, S z → z ∈ b
  pw : F.Pairwise Sh
theorem blks_isB {R : List Nat} (hR : ∀ v w, (row R v).testBit w = true → w < R.length) (hn : R.length ≤ 512) (hs : ∀ a b, adj R a b → adj R b a) : IsB R (blks R) := by
  obtain ⟨g, he⟩ := upto_gb hR hn hs R.length (Nat.le_refl _)
  have hp := isort_perm (found R).blocks
  refine ⟨fun b hb => g.ns b (hp.mem_iff.1 hb), fun S hS h2 hlt => ?_, ?_⟩
  · obtain ⟨a, _, ha, -, -⟩ := id h2
    obtain ⟨c, hc, h⟩ := g.cov S hS h2 a ha (he a (hlt a ha))
    exact ⟨c, hp.mem_iff.2 hc, h⟩
  · exact (hp.symm.pairwise_iff (fun ⟨u, h⟩ => ⟨u, fun x h1 h2 => h x h2 h1⟩)).1 (upto_pw hR hn R.length (Nat.le_refl _))
end Gh
end Go.Proofs.YtjoomgojnpcbeaaDoor
end
