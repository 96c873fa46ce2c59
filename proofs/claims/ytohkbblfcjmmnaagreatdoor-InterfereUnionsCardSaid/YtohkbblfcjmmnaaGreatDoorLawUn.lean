/- The walk of the law InterfereUnions. -/
import Derived.Test.YtohkbblfcjmmnaaGreatDoorRef15b
import Derived.Test.YtohkbblfcjmmnaaGreatDoorTail
import Derived.Test.YtohkbblfcjmmnaaGreatDoorLawHi
/- The plain laws behind InterfereHolds. -/
namespace Go.Proofs.YtohkbblfcjmmnaaGreatDoor
namespace M
theorem filter_one {b : List Int} (hb : b.Nodup) {x : Int} (hx : x ∈ b) : (b.filter fun y => decide (y = x)) = [x] := by
  induction b with
  | nil => cases hx
  | cons y b ih =>
    rw [List.nodup_cons] at hb
    by_cases h : y = x
    · subst h
      have : (b.filter fun z => decide (z = y)) = [] := by
        rw [List.filter_eq_nil_iff]
        intro z hz hd
        rw [decide_eq_true_eq] at hd
        subst hd
        exact hb.1 hz
      simp [this]
    · have hx2 : x ∈ b := by
        rcases List.mem_cons.1 hx with e | e
        · exact absurd e.symm h
        · exact e
      rw [List.filter_cons]
      simp only [h, decide_false, Bool.false_eq_true, if_false]
      exact ih hb.2 hx2
theorem both_sub {a b : List Int} (hb : b.Nodup) (h : ∀ x ∈ a, x ∈ b) : both a b = a := by
  unfold both
  induction a with
  | nil => rfl
  | cons x a ih =>
    rw [List.flatMap_cons, filter_one hb (h x (by simp)), ih (fun y hy => h y (by simp [hy]))]
    rfl
theorem cast_nodup (p : Nat → Bool) (n : Nat) : (((List.range n).filter p).map fun (i : Nat) => (i : Int)).Nodup := by
  refine List.pairwise_map.2 ?_
  refine List.Pairwise.imp ?_ (List.Pairwise.filter p List.nodup_range)
  intro a b h e
  exact h (by omega)
theorem cast_sub {p q : Nat → Bool} (n : Nat) (h : ∀ i, p i = true → q i = true) : ∀ x ∈ ((List.range n).filter p).map (fun (i : Nat) => (i : Int)), x ∈ ((List.range n).filter q).map (fun (i : Nat) => (i : Int)) := by
  intro x hx
  obtain ⟨i, hi, rfl⟩ := List.mem_map.1 hx
  obtain ⟨h1, h2⟩ := List.mem_filter.1 hi
  exact List.mem_map.2 ⟨i, List.mem_filter.2 ⟨h1, h i h2⟩, rfl⟩
theorem lost_both_area (W H : Int) (G : List Int) (a : St) (r : Int) (l : List St) : both (lost W H G a r l) (area W H G a) = lost W H G a r l :=
  both_sub (cast_nodup _ _) (cast_sub _ (fun i h => by rw [Bool.and_eq_true] at h; exact h.1))
theorem dist_mono {W : Int} {G : List Int} {a b : St} {r r' cx cy : Int} (hr : r ≤ r') (h : dist W G a r cx cy [b] = true) : dist W G a r' cx cy [b] = true := by
  rw [dist1, decide_eq_true_eq] at *
  omega
theorem lost_both_ratio (W H : Int) (G : List Int) (a b : St) {r r' : Int} (hr : r ≤ r') : both (lost W H G a r [b]) (lost W H G a r' [b]) = lost W H G a r [b] :=
  both_sub (cast_nodup _ _) (cast_sub _ (fun i h => by rw [Bool.and_eq_true] at h ⊢; exact ⟨h.1, dist_mono hr h.2⟩))
/-- The other station with more power. -/
def strg (b : St) (more : Int) : St := ⟨b.id, b.x, b.y, b.pw + more, b.h, b.pat, b.band, b.ch⟩
theorem strg_field (W : Int) (G : List Int) (b : St) (more cx cy : Int) : field W G (strg b more) cx cy = field W G b cx cy + more := by
  unfold field strg
  dsimp only
  omega
theorem lost_both_strong (W H : Int) (G : List Int) (a b : St) (r : Int) {more : Int} (hm : 0 ≤ more) : both (lost W H G a r [b]) (lost W H G a r [strg b more]) = lost W H G a r [b] :=
  both_sub (cast_nodup _ _) (cast_sub _ (fun i h => by
    rw [Bool.and_eq_true] at h ⊢
    refine ⟨h.1, ?_⟩
    have h2 := h.2
    rw [dist1, decide_eq_true_eq] at h2 ⊢
    rw [strg_field]
    omega))
theorem strg_ok {W H : Int} {G P : List Int} {b : St} {more : Int} (h : okS W H G P b = true) (h0 : 0 ≤ more) (h1 : b.pw + more ≤ 300) : okS W H G P (strg b more) = true := by
  obtain ⟨hs, ht, hx, hy⟩ := okS_iff.1 h
  refine okS_iff.2 ⟨?_, ht, hx, hy⟩
  obtain ⟨a, b', c, d, e, f, g⟩ := svalid_iff.1 hs
  exact svalid_iff.2 ⟨a, b', c, by unfold strg; dsimp only; omega, e, f, g⟩
def pv (P : List Int) (x : Int) : Int := P.getD x.toNat 0
theorem totTo_sum {P l : List Int} (hn : l.Nodup) : ∀ k, k ≤ l.length → totTo P l k = ((l.take k).map (pv P)).sum
  | 0, _ => rfl
  | k + 1, hk => by
    have hkl : k < l.length := by omega
    rw [totTo_succ hkl, totTo_sum hn k (by omega), List.take_succ_eq_append_getElem hkl, List.map_append, List.sum_append]
    have hni : ¬ l[k] ∈ l.take k := by
      intro hm
      obtain ⟨j, hj, e⟩ := List.getElem_of_mem hm
      rw [List.getElem_take] at e
      have hjk : j < k := by simp at hj; omega
      exact List.pairwise_iff_getElem.1 hn j k (by omega) hkl hjk e
    rw [if_neg hni]
    simp [pv]
theorem total_sum {P l : List Int} (hn : l.Nodup) : total P l = (l.map (pv P)).sum := by
  unfold total
  rw [totTo_sum hn _ (Nat.le_refl _), List.take_length]
theorem sum_sub {f : Int → Int} (hf : ∀ x, 0 ≤ f x) {a b : List Int} (h : a.Sublist b) : (a.map f).sum ≤ (b.map f).sum := by
  induction h with
  | slnil => simp
  | cons x _ ih => have := hf x; simp; omega
  | cons_cons x _ ih => simp; omega
theorem pv_nonneg {P : List Int} (hP : ∀ g ∈ P, 0 ≤ g ∧ g ≤ 1000000) (x : Int) : 0 ≤ pv P x := by
  unfold pv
  by_cases hj : x.toNat < P.length
  · have := hP P[x.toNat] (List.getElem_mem hj)
    simp [hj]; omega
  · simp [Nat.le_of_not_lt hj]
theorem lost_total_le {W H : Int} {G P : List Int} {a : St} {r : Int} {l : List St} (hP : ∀ g ∈ P, 0 ≤ g ∧ g ≤ 1000000) : total P (lost W H G a r l) ≤ total P (area W H G a) := by
  rw [total_sum (l := lost W H G a r l) (cast_nodup _ _), total_sum (l := area W H G a) (cast_nodup _ _)]
  refine sum_sub (pv_nonneg hP) ?_
  rw [← lost_area]
  exact List.filter_sublist
end M
end Go.Proofs.YtohkbblfcjmmnaaGreatDoor

/- The plain laws behind InterfereUnions: the people of cells depend on which cells there are, not on their order. -/
namespace Go.Proofs.YtohkbblfcjmmnaaGreatDoor
namespace M
/-- The people of the cells below n that a test allows. -/
def sumB (P : List Int) (n : Nat) (p : Nat → Bool) : Int := ((List.range n).map fun i => if p i then P.getD i 0 else 0).sum
theorem sumB_zero (P : List Int) (p : Nat → Bool) : sumB P 0 p = 0 := rfl
theorem sumB_succ (P : List Int) (n : Nat) (p : Nat → Bool) : sumB P (n + 1) p = sumB P n p + if p n then P.getD n 0 else 0 := by
  unfold sumB
  rw [List.range_succ, List.map_append, List.sum_append]
  simp
theorem sumB_congr {P : List Int} {p q : Nat → Bool} : ∀ {n : Nat}, (∀ i, i < n → p i = q i) → sumB P n p = sumB P n q
  | 0, _ => rfl
  | n + 1, h => by rw [sumB_succ, sumB_succ, sumB_congr (fun i hi => h i (by omega)), h n (by omega)]
theorem getD_nonneg {P : List Int} (hP : ∀ g ∈ P, 0 ≤ g ∧ g ≤ 1000000) (i : Nat) : 0 ≤ P.getD i 0 := by
  by_cases hj : i < P.length
  · have := hP P[i] (List.getElem_mem hj)
    simp [hj]; omega
  · simp [Nat.le_of_not_lt hj]
theorem sumB_mono {P : List Int} (hP : ∀ g ∈ P, 0 ≤ g ∧ g ≤ 1000000) {p q : Nat → Bool} : ∀ {n : Nat}, (∀ i, i < n → p i = true → q i = true) → sumB P n p ≤ sumB P n q
  | 0, _ => by simp [sumB_zero]
  | n + 1, h => by
    have ih := sumB_mono hP (n := n) (fun i hi => h i (by omega))
    have g := getD_nonneg hP n
    rw [sumB_succ, sumB_succ]
    by_cases hp : p n = true
    · rw [if_pos hp, if_pos (h n (by omega) hp)]; omega
    · rw [if_neg hp]
      split <;> omega
theorem sumB_or {P : List Int} (hP : ∀ g ∈ P, 0 ≤ g ∧ g ≤ 1000000) {p q : Nat → Bool} : ∀ {n : Nat}, sumB P n (fun i => p i || q i) ≤ sumB P n p + sumB P n q
  | 0 => by simp [sumB_zero]
  | n + 1 => by
    have ih := sumB_or hP (p := p) (q := q) (n := n)
    have g := getD_nonneg hP n
    rw [sumB_succ, sumB_succ, sumB_succ]
    cases p n <;> cases q n <;> simp only [Bool.or_false, Bool.or_true, Bool.false_eq_true, if_false, if_true] <;> omega
theorem sumB_add1 {P : List Int} {p : Nat → Bool} {x : Nat} (hx : p x = false) : ∀ {n : Nat}, sumB P n (fun i => p i || decide (i = x)) = sumB P n p + if x < n then P.getD x 0 else 0
  | 0 => by simp [sumB_zero]
  | n + 1 => by
    rw [sumB_succ, sumB_succ, sumB_add1 hx]
    by_cases e : n = x
    · subst e
      simp [hx]
    · by_cases h : x < n
      · simp [e, h, show x < n + 1 by omega]; omega
      · simp [e, h, show ¬ x < n + 1 by omega]
theorem totTo_sumB {P l : List Int} {n : Nat} (hin : ∀ x ∈ l, 0 ≤ x ∧ x < (n : Int)) : ∀ k, k ≤ l.length → totTo P l k = sumB P n (fun i => decide ((i : Int) ∈ l.take k))
  | 0, _ => by
    rw [sumB_congr (q := fun _ => false) (fun i _ => by simp)]
    show (0 : Int) = _
    clear hin
    induction n with
    | zero => rfl
    | succ n ih => rw [sumB_succ, ← ih]; rfl
  | k + 1, hk => by
    have hkl : k < l.length := by omega
    have hx := hin l[k] (List.getElem_mem hkl)
    obtain ⟨x, hxe⟩ : ∃ x : Nat, l[k] = (x : Int) := ⟨l[k].toNat, by omega⟩
    rw [totTo_succ hkl, totTo_sumB hin k (by omega), List.take_succ_eq_append_getElem hkl, hxe, Int.toNat_natCast]
    rw [hxe] at hx
    by_cases hm : (x : Int) ∈ l.take k
    · rw [if_pos hm, Int.add_zero]
      refine sumB_congr fun i _ => ?_
      by_cases e : i = x
      · subst e; simp [hm]
      · have : ¬ (i : Int) = (x : Int) := by omega
        simp [this]
    · rw [if_neg hm]
      have := sumB_add1 (P := P) (p := fun i => decide ((i : Int) ∈ l.take k)) (x := x) (by simpa using hm) (n := n)
      rw [if_pos (by omega)] at this
      rw [← this]
      refine sumB_congr fun i _ => ?_
      simp only [List.mem_append, List.mem_singleton, Bool.decide_or]
      congr 1
      by_cases e : i = x
      · subst e; simp
      · have : ¬ (i : Int) = (x : Int) := by omega
        simp [e, this]
theorem total_sumB {P l : List Int} {n : Nat} (hin : ∀ x ∈ l, 0 ≤ x ∧ x < (n : Int)) : total P l = sumB P n (fun i => decide ((i : Int) ∈ l)) := by
  unfold total
  rw [totTo_sumB hin _ (Nat.le_refl _), List.take_length]
theorem total_same {P l l' : List Int} {n : Nat} (hin : ∀ x ∈ l, 0 ≤ x ∧ x < (n : Int)) (h : ∀ x, x ∈ l ↔ x ∈ l') : total P l = total P l' := by
  rw [total_sumB hin, total_sumB (fun x hx => hin x ((h x).2 hx))]
  exact sumB_congr fun i _ => by simp [h]
theorem total_sub {P l l' : List Int} {n : Nat} (hP : ∀ g ∈ P, 0 ≤ g ∧ g ≤ 1000000) (hin : ∀ x ∈ l', 0 ≤ x ∧ x < (n : Int)) (h : ∀ x, x ∈ l → x ∈ l') : total P l ≤ total P l' := by
  rw [total_sumB hin, total_sumB (fun x hx => hin x (h x hx))]
  exact sumB_mono hP fun i _ hi => by simpa using h _ (by simpa using hi)
theorem total_or {P l l1 l2 : List Int} {n : Nat} (hP : ∀ g ∈ P, 0 ≤ g ∧ g ≤ 1000000) (h1 : ∀ x ∈ l1, 0 ≤ x ∧ x < (n : Int)) (h2 : ∀ x ∈ l2, 0 ≤ x ∧ x < (n : Int)) (h : ∀ x, x ∈ l ↔ x ∈ l1 ∨ x ∈ l2) : total P l ≤ total P l1 + total P l2 := by
  rw [total_sumB h1, total_sumB h2, total_sumB (l := l) (fun x hx => ((h x).1 hx).elim (h1 x) (h2 x))]
  rw [sumB_congr (q := fun i => decide ((i : Int) ∈ l1) || decide ((i : Int) ∈ l2)) (fun i _ => by simp [h])]
  exact sumB_or hP
theorem lost_mem {W H : Int} {G : List Int} {a : St} {r : Int} {l : List St} {x : Int} : x ∈ lost W H G a r l ↔ ∃ i : Nat, x = i ∧ i < (W * H).toNat ∧ cov W G a (cx W i) (cy W i) = true ∧ ∃ b ∈ l, field W G a (cx W i) (cy W i) - field W G b (cx W i) (cy W i) < r := by
  unfold lost dist
  constructor
  · intro h
    obtain ⟨i, hi, rfl⟩ := List.mem_map.1 h
    obtain ⟨h1, h2⟩ := List.mem_filter.1 hi
    rw [Bool.and_eq_true, List.any_eq_true] at h2
    obtain ⟨b, hb, hd⟩ := h2.2
    exact ⟨i, rfl, List.mem_range.1 h1, h2.1, b, hb, by simpa using hd⟩
  · rintro ⟨i, rfl, h1, h2, b, hb, hd⟩
    refine List.mem_map.2 ⟨i, List.mem_filter.2 ⟨List.mem_range.2 h1, ?_⟩, rfl⟩
    rw [Bool.and_eq_true, List.any_eq_true]
    exact ⟨h2, b, hb, by simpa using hd⟩
theorem lost_mem1 {W H : Int} {G : List Int} {a : St} {r : Int} {l : List St} {x : Int} : x ∈ lost W H G a r l ↔ ∃ b ∈ l, x ∈ lost W H G a r [b] := by
  constructor
  · intro h
    obtain ⟨i, e, h1, h2, b, hb, hd⟩ := lost_mem.1 h
    exact ⟨b, hb, lost_mem.2 ⟨i, e, h1, h2, b, by simp, hd⟩⟩
  · rintro ⟨b, hb, h⟩
    obtain ⟨i, e, h1, h2, b', hb', hd⟩ := lost_mem.1 h
    rw [List.mem_singleton] at hb'
    subst hb'
    exact lost_mem.2 ⟨i, e, h1, h2, b', hb, hd⟩
theorem lost_inN {W H : Int} {G : List Int} {a : St} {r : Int} {l : List St} : ∀ x ∈ lost W H G a r l, 0 ≤ x ∧ x < ((W * H).toNat : Int) := fun x hx => by have := lost_in x hx; omega
/-- The document's list of lost cells: those of each station in turn. -/
def lostAll (W H : Int) (G : List Int) (a : St) (l : List St) : List Int := l.flatMap fun b => lost W H G a 30 [b]
theorem lostAll_in {W H : Int} {G : List Int} {a : St} {l : List St} : ∀ x ∈ lostAll W H G a l, 0 ≤ x ∧ x < W * H := by
  intro x hx
  obtain ⟨b, _, h⟩ := List.mem_flatMap.1 hx
  exact lost_in x h
theorem lostAll_total (W H : Int) (G P : List Int) (a : St) (l : List St) : total P (lostAll W H G a l) = total P (lost W H G a 30 l) :=
  (total_same (n := (W * H).toNat) lost_inN (fun x => by unfold lostAll; rw [lost_mem1, List.mem_flatMap])).symm
theorem lost_rev (W H : Int) (G P : List Int) (a : St) (l : List St) : total P (lost W H G a 30 l.reverse) = total P (lost W H G a 30 l) :=
  total_same (n := (W * H).toNat) lost_inN (fun x => by rw [lost_mem1, lost_mem1 (l := l)]; simp)
theorem lost_one_le {W H : Int} {G P : List Int} {a : St} {l : List St} {b : St} (hP : ∀ g ∈ P, 0 ≤ g ∧ g ≤ 1000000) (hb : b ∈ l) : total P (lost W H G a 30 [b]) ≤ total P (lost W H G a 30 l) :=
  total_sub hP lost_inN (fun _ hx => lost_mem1.2 ⟨b, hb, hx⟩)
/-- The sum of the losses by each station. -/
def sumOne (W H : Int) (G P : List Int) (a : St) (l : List St) : Int := (l.map fun b => total P (lost W H G a 30 [b])).sum
theorem lost_nil (W H : Int) (G : List Int) (a : St) : lost W H G a 30 [] = [] := by
  apply List.eq_nil_iff_forall_not_mem.2
  intro x hx
  obtain ⟨b, hb, _⟩ := lost_mem1.1 hx
  cases hb
theorem lost_le_sum {W H : Int} {G P : List Int} {a : St} (hP : ∀ g ∈ P, 0 ≤ g ∧ g ≤ 1000000) : ∀ l : List St, total P (lost W H G a 30 l) ≤ sumOne W H G P a l
  | [] => by rw [lost_nil]; simp [sumOne, total, totTo]
  | b :: l => by
    have ih := lost_le_sum (W := W) (H := H) (G := G) (a := a) hP l
    have := total_or (n := (W * H).toNat) (l := lost W H G a 30 (b :: l)) (l1 := lost W H G a 30 [b]) (l2 := lost W H G a 30 l) hP lost_inN lost_inN (fun x => by rw [lost_mem1, lost_mem1 (l := l)]; simp)
    have e : sumOne W H G P a (b :: l) = total P (lost W H G a 30 [b]) + sumOne W H G P a l := by simp [sumOne]
    omega
theorem sumOne_rev (W H : Int) (G P : List Int) (a : St) (l : List St) : sumOne W H G P a l.reverse = sumOne W H G P a l := by
  unfold sumOne
  rw [List.map_reverse, List.sum_reverse]
theorem totl_bd {P l : List Int} (hP : ∀ g ∈ P, 0 ≤ g ∧ g ≤ 1000000) (hl : l.length ≤ 100000) : 0 ≤ total P l ∧ total P l ≤ 100000000000 := by
  have := totTo_bd (l := l) hP l.length
  unfold total
  omega
end M
end Go.Proofs.YtohkbblfcjmmnaaGreatDoor

/- Layer 15: the document's Union. -/
namespace Go.Proofs.YtohkbblfcjmmnaaGreatDoor
open Go Go.RowKit
set_option maxRecDepth 100000

theorem M.lostAll_take {W H : Int} {G : List Int} {a : St} {l : List SE} {k : Nat} (h : k < l.length) : M.lostAll W H G a ((l.take (k + 1)).map (·.s)) = M.lostAll W H G a ((l.take k).map (·.s)) ++ M.lost W H G a 30 [l[k].s] := by
  unfold M.lostAll
  rw [List.take_succ_eq_append_getElem h, List.map_append, List.flatMap_append]
  simp
theorem M.lostAll_len {W H : Int} {G P : List Int} {a : St} (htv : M.tvalid W H G P = true) : ∀ l : List St, (M.lostAll W H G a l).length ≤ 4096 * l.length
  | [] => by simp [M.lostAll]
  | b :: l => by
    have ih := M.lostAll_len (a := a) htv l
    have h1 : (M.lost W H G a 30 [b]).length ≤ 4096 := M.lost_len4 htv
    have e : M.lostAll W H G a (b :: l) = M.lost W H G a 30 [b] ++ M.lostAll W H G a l := by simp [M.lostAll]
    rw [e, List.length_append, List.length_cons]
    omega

set_option maxHeartbeats 8000000 in
theorem rUnion15_ok (W H : Int) (GA PA : Option Addr) (gc pc : Nat) (G P : List Int) (a : St) (A : Option Addr) (c : Nat) (LA : Option Addr) (lc : Nat) (es : List SE) (w : World) (hg : Sl 1 icell w w.heap.size GA G) (hp : Sl 1 icell w w.heap.size PA P) (hS : Sl 1 icell w w.heap.size A a.pat) (hL : Sl 8 secell w w.heap.size LA es) (hP : Pats w es)
    (hl : es.length ≤ 20) (hoa : M.okS W H G P a = true) (hob : ∀ e ∈ es, M.okS W H G P e.s = true) :
    Calls Tryz.prog 24 #[tv W H GA PA G.length gc P.length pc, stv a A c, .slice LA es.length lc] w fun e w' => e = .returned (.int .i64 (M.total P (M.lostAll W H G a (es.map (·.s))))) ∧ Below w.heap.size w w' := by
  obtain ⟨V, HW, x0, x1, hB, -⟩ := boxes2 w #[.int .i64 W, .int .i64 H, .slice GA G.length gc, .slice PA P.length pc] 24 (stc a A c) 28
  obtain ⟨i0, hi, hz0, hz1, hz2⟩ := info_parts intInfo
  have Hi := Lib.hid hi; have Hz0 := Lib.hid hz0; have Hz1 := Lib.hid hz1; have Hz2 := Lib.hid hz2
  clear hi hz0 hz1 hz2
  obtain ⟨-, htv, -, -⟩ := M.okS_iff.1 hoa
  obtain ⟨r1, r2, r3, r4, r5, r6⟩ := M.tvalid_iff.1 htv
  have HR6 := Lib.hid r6
  have HOA := Lib.hid hoa
  have HOB := Lib.hid hob
  have HTV := Lib.hid htv
  clear hoa hob htv r5 r6
  obtain ⟨r, hr⟩ : ∃ r, M.total P (M.lostAll W H G a (es.map (·.s))) = r := ⟨_, rfl⟩
  rw [hr]
  have HR := Lib.hid hr
  clear hr
  go_enter Tryz.func24, Tryz.ntmps24
  go_wp2_with fail
  rw [HW.out]
  go_loopw [7, 8] (fun out i wr => ∃ (k : Nat) (os : List Int), k ≤ es.length ∧ i = .int .i64 k ∧ Below w.heap.size w wr ∧ Below V.heap.size V wr ∧ os.length ≤ 4096 * k ∧ wr.ownsRow V.heap.size 3 1 out os.length (flat 1 icell os) ∧ Hid (os = M.lostAll W H G a ((es.take k).map (·.s)))) (fun _ i _ => es.length - (intOf i).toNat)
  case atStart => exact ⟨0, [], Nat.zero_le _, rfl, hB, Below.refl _ _, by simp, own_nil _ _ _ _ _, Lib.hid (by simp [M.lostAll])⟩
  case round =>
    obtain ⟨k, os, hk, rfl, hBw, hBr, hol, hown, HO⟩ := hrel
    have y0 := x0.below hBr
    have y1 := x1.below hBr
    obtain ⟨c0, c1, c2, c3⟩ := y0.c4
    by_cases hlt : k < es.length
    · obtain ⟨b0, b1, b2, b3, b4, b5, b6, b7⟩ := y1.c8
      obtain ⟨la, rfl, hlb, a0, a1, a2, a3, a4, a5, a6, a7⟩ := ((hL.below hBw).more hBw.size).st8 hlt
      have hSk := (hP.below hBw).at_ hlt
      have HKO := Lib.hid (HOB.out es[k] (List.getElem_mem hlt))
      have HT := Lib.hid (M.lostAll_take (W := W) (H := H) (G := G) (a := a) hlt)
      generalize es[k] = ek at *
      obtain ⟨s, A', c'⟩ := ek
      simp only at a0 a1 a2 a3 a4 a5 a6 a7 hSk HKO HT
      have l0 := y0.lt
      have l1 := y1.lt
      have i1 : (0 : Int) ≤ (k : Int) := by omega
      have i2 : (k : Int) < (es.length : Int) := by omega
      have hll : (M.lost W H G a 30 [s]).length ≤ 4096 := M.lost_len4 HTV.out
      go_wp2_with fail
      refine wp_region_kept_tail1 7 wr.heap.size wr _ (by kernel_rfl) rfl rfl (by kernel_rfl) (by kernel_rfl) (by kernel_rfl) (fun _ _ _ _ h => h) (Below.refl _ _) ?_
      simp only [List.take_succ_cons, List.take_zero, List.drop_succ_cons, List.drop_zero]
      repeat (go_big_quiet_step ((fail)))
      refine wpQuiet_nil ?_
      rintro w4 ⟨⟨_, hb4⟩, rfl⟩
      clear a0 a1 a2 a3 a4 a5 a6 a7 b0 b1 b2 b3 b4 b5 b6 b7 c0 c1 c2 c3 l0 l1 i1 i2
      have B4 := after_ hBw hb4
      go_wp2_with fail
      have kc := rCells15_ok W H GA PA gc pc G P a s A A' c c' 0 w4 ((hg.below B4).more B4.size) ((hS.below B4).more B4.size) ((hSk.below hb4).more hb4.size) HOA.out HKO.out
      rw [show M.ratio 0 = 30 from rfl] at kc
      refine kc.mono ?_
      rintro e w5 ⟨RA, rc, rfl, hRA, hb5⟩
      have hown5 := own_below (own_below hown hb4) hb5
      have B5 := after_ (after_ hBr hb4) hb5
      have Bw5 := after_ B4 hb5
      clear kc
      obtain ⟨ls, HLS⟩ : ∃ ls, Hid (M.lost W H G a 30 [s] = ls) := ⟨_, Lib.hid rfl⟩
      rw [HLS.out] at hRA hll HT ⊢
      go_wp2_with (at_builtin; refine wpList_append_sl _ (w0 := V) (cell := icell) rfl _ _ _ rfl V.heap.size V.heap.size 3 i0 _ 8 Tryz.underlying22 Hi.out Hz0.out Hz1.out Hz2.out rfl (by decide) _ _ _ rfl hown5 _ RA rc ls rfl hRA (fun _ _ => rfl) (by unfold maxLen; omega) (by omega) B5.size (Nat.le_refl _) B5 ?_; intro v' w' hown' hb' _)
      go_roundw
      case rel => exact ⟨k + 1, os ++ ls, hlt, by go_num, hB.trans (hb'.mono hB.size), hb', by rw [List.length_append]; omega, by rw [List.length_append]; exact hown', Lib.hid (by rw [HT.out, HO.out])⟩
      case measure => simp [intOf]; omega
    · obtain rfl : k = es.length := by omega
      have HQ := HO.out
      rw [List.take_length] at HQ
      have HIN : Hid (∀ x ∈ os, 0 ≤ x ∧ x < W * H) := Lib.hid (by rw [HQ]; exact M.lostAll_in)
      have HRR : Hid (M.total P os = r) := Lib.hid (by rw [HQ]; exact HR.out)
      clear HQ HO
      obtain ⟨A9, c9, rfl, hS9⟩ := own_slice (by decide) hown
      go_wp2_with fail
      refine (rPeople15_ok W H GA PA gc pc G.length P A9 c9 os wr ((hp.below hBw).more hBw.size) hS9 r1 r2 r4 HR6.out (by omega) HIN.out).mono ?_
      rintro e w4 ⟨rfl, hb4⟩
      rw [HRR.out]
      go_wp2_with fail
      go_ret
      exact ⟨rfl, after_ hBw hb4⟩
end Go.Proofs.YtohkbblfcjmmnaaGreatDoor

/- The walk of the law InterfereUnions. -/
namespace Go.Proofs.YtohkbblfcjmmnaaGreatDoor
open Go Go.RowKit
set_option maxRecDepth 100000

theorem M.smallL {W H : Int} {gl pl : Nat} {al : List SE} (h : M.small W H gl pl 49 (al.map (·.s)) = true) : gl ≤ 49 ∧ pl ≤ 49 ∧ ∀ e ∈ al, e.s.pat.length ≤ 20 := by
  unfold M.small at h
  simp at h
  refine ⟨by omega, by omega, fun e he => ?_⟩
  exact h.1 e he
theorem M.allowedL {W H : Int} {G P : List Int} {s : St} {l : List St} (h : M.allowed W H G P (s :: l) = true) : M.okS W H G P s = true ∧ ∀ b ∈ l, M.okS W H G P b = true := by
  unfold M.allowed at h
  simp only [Bool.and_eq_true, List.all_cons, List.all_eq_true] at h
  exact h.2
theorem M.allowedN {W H : Int} {G P : List Int} {s : St} {l : List St} (h : M.allowed W H G P (s :: l) = false) : M.lostOk W H G P s 0 l = false := by
  rw [Bool.eq_false_iff] at h ⊢
  intro h2
  apply h
  unfold M.lostOk at h2
  unfold M.allowed
  simp only [Bool.and_eq_true, List.all_cons] at h2 ⊢
  exact ⟨(M.okS_iff.1 h2.2).2.1, h2.2, h2.1.2⟩
theorem M.lostOkL {W H : Int} {G P : List Int} {s : St} {l : List St} (h : M.okS W H G P s = true) (h2 : ∀ b ∈ l, M.okS W H G P b = true) : M.lostOk W H G P s 0 l = true := by
  unfold M.lostOk
  simp only [Bool.and_eq_true, List.all_eq_true]
  exact ⟨⟨rfl, h2⟩, h⟩
theorem Pats.cons {w : World} {s : St} {A : Option Addr} {c : Nat} {es : List SE} (h : Sl 1 icell w w.heap.size A s.pat) (h2 : Pats w es) : Pats w (⟨s, A, c⟩ :: es) := fun e he => by
  rcases List.mem_cons.1 he with rfl | he
  · exact h
  · exact h2 e he
theorem Pats.rev {w : World} {es : List SE} (h2 : Pats w es) : Pats w es.reverse := fun e he => h2 e (List.mem_reverse.1 he)
theorem sumOne_drop {W H : Int} {G P : List Int} {a : St} {es : List SE} {m : Nat} (h : m < es.length) : M.sumOne W H G P a ((es.drop m).map (·.s)) = M.sumOne W H G P a ((es.drop (m + 1)).map (·.s)) + M.total P (M.lost W H G a 30 [es[m].s]) := by
  rw [List.drop_eq_getElem_cons h]
  unfold M.sumOne
  rw [List.map_cons, List.map_cons, List.sum_cons]
  exact Int.add_comm _ _
theorem drop_rev {es : List SE} {m : Nat} (h : m < es.length) : (es.drop m).reverse = (es.drop (m + 1)).reverse ++ [es[m]] := by
  rw [List.drop_eq_getElem_cons h]
  simp

/-- A station's cells at an address. -/
def At8 (w : World) (p : Addr) (s : St) (A : Option Addr) (c : Nat) : Prop :=
  w.cell? p = some (.int .i64 s.id) ∧ w.cell? ⟨p.block, p.off + 1, none⟩ = some (.int .i64 s.x) ∧ w.cell? ⟨p.block, p.off + 2, none⟩ = some (.int .i64 s.y) ∧ w.cell? ⟨p.block, p.off + 3, none⟩ = some (.int .i64 s.pw)
    ∧ w.cell? ⟨p.block, p.off + 4, none⟩ = some (.int .i64 s.h) ∧ w.cell? ⟨p.block, p.off + 5, none⟩ = some (.slice A s.pat.length c) ∧ w.cell? ⟨p.block, p.off + 6, none⟩ = some (.int .i64 s.band) ∧ w.cell? ⟨p.block, p.off + 7, none⟩ = some (.int .i64 s.ch)
theorem At8.below {w w' : World} {B : Nat} {p : Addr} {s : St} {A : Option Addr} {c : Nat} (h : At8 w p s A c) (hb : Below B w w') (hp : p.block < B) : At8 w' p s A c := by
  obtain ⟨a0, a1, a2, a3, a4, a5, a6, a7⟩ := h
  exact ⟨(hb.cell hp).trans a0, (hb.cell (p := ⟨p.block, _, none⟩) hp).trans a1, (hb.cell (p := ⟨p.block, _, none⟩) hp).trans a2, (hb.cell (p := ⟨p.block, _, none⟩) hp).trans a3, (hb.cell (p := ⟨p.block, _, none⟩) hp).trans a4, (hb.cell (p := ⟨p.block, _, none⟩) hp).trans a5, (hb.cell (p := ⟨p.block, _, none⟩) hp).trans a6, (hb.cell (p := ⟨p.block, _, none⟩) hp).trans a7⟩
theorem Sl.at8 {w : World} {B : Nat} {LA : Option Addr} {es : List SE} {k : Nat} (h : Sl 8 secell w B LA es) (hk : k < es.length) : ∃ la, LA = some la ∧ (la.add (k * 8)).block < B ∧ At8 w (la.add (k * 8)) es[k].s es[k].A es[k].c := by
  obtain ⟨la, e, hb, hh⟩ := h.st8 hk
  exact ⟨la, e, hb, hh⟩
theorem Tab.keptU {w : World} {u : Kept w.heap.size w} (h : Tab w) : Tab u.val := h.kept u.h

set_option maxHeartbeats 64000000 in
theorem interfereUnions_walk (W H : Int) (GA PA : Option Addr) (gc pc : Nat) (G P : List Int) (s : St) (A : Option Addr) (c : Nat) (LA : Option Addr) (lc : Nat) (es : List SE) (w : World) (ht : Tab w) (hg : Sl 1 icell w w.heap.size GA G) (hp : Sl 1 icell w w.heap.size PA P) (hS : Sl 1 icell w w.heap.size A s.pat) (hL : Sl 8 secell w w.heap.size LA es) (hP : Pats w es) (hreach : es.length * 80 ≤ 140737488351232) :
    Calls Tryz.prog 6 #[tv W H GA PA G.length gc P.length pc, stv s A c, .slice LA es.length lc] w (LawTrue w) := by
  obtain ⟨V, HW, x0, x1, hB, -⟩ := boxes2 w #[.int .i64 W, .int .i64 H, .slice GA G.length gc, .slice PA P.length pc] 24 (stc s A c) 28
  obtain ⟨U, HU, u0, hBU, -⟩ := boxes1 V (stc s A c) 28
  have hownU : U.ownsRow V.heap.size 28 8 (.slice (some ⟨V.heap.size, 0, none⟩) 1 1) 1 (flat 8 secell [⟨s, A, c⟩]) := by
    rw [← HU.out]
    exact World.ownsRow_lit (base := V.heap.size) V (stc s A c) 1 (Nat.le_refl _) (by decide) rfl
  obtain ⟨i8, hi, hz0, hz1, hz2⟩ := info_parts seInfo
  have Hi := Lib.hid hi; have Hz0 := Lib.hid hz0; have Hz1 := Lib.hid hz1; have Hz2 := Lib.hid hz2
  clear hi hz0 hz1 hz2
  have BU := after_ hB hBU
  have hLU := (hL.below BU).more BU.size
  obtain ⟨b0, b1, b2, b3, b4, b5, b6, b7⟩ := x1.c8
  have hV := HW.out
  have hU := HU.out
  by_cases g4 : (4 : Int) < es.length
  · have p4 : decide ((4 : Int) < (es.length : Int)) = true := decide_eq_true g4
    go_enter Tryz.func6, Tryz.ntmps6
    go_wp2_with (at_builtin; refine wpList_append_sl _ (w0 := V) (cell := secell) rfl _ _ _ rfl V.heap.size V.heap.size 28 i8 _ 80 Tryz.underlying29 Hi.out Hz0.out Hz1.out Hz2.out rfl (by decide) _ _ _ rfl hownU _ LA lc es rfl hLU (fun e j => se_one e j) (by unfold maxLen; omega) (by omega) hBU.size (Nat.le_refl _) hBU ?_; intro v' w1 hown1 hb1 _; obtain ⟨c0, c1, c2, c3⟩ := (x0.belowB hb1 x0.lt).c4)
    have Bw1 := hB.trans (hb1.mono hB.size)
    refine (known_any w1 (ht.kept Bw1)).mono ?_
    rintro e w2 ⟨rfl, hb2⟩
    go_wp2_with fail
    go_ret
    exact ⟨rfl, after_ Bw1 hb2⟩
  have p4 : decide ((4 : Int) < (es.length : Int)) = false := decide_eq_false g4
  have hl4 : es.length ≤ 4 := by omega
  go_enter Tryz.func6, Tryz.ntmps6
  go_wp2_with (at_builtin; refine wpList_append_sl _ (w0 := V) (cell := secell) rfl _ _ _ rfl V.heap.size V.heap.size 28 i8 _ 80 Tryz.underlying29 Hi.out Hz0.out Hz1.out Hz2.out rfl (by decide) _ _ _ rfl hownU _ LA lc es rfl hLU (fun e j => se_one e j) (by unfold maxLen; omega) (by omega) hBU.size (Nat.le_refl _) hBU ?_; intro v' w1 hown1 hb1 _; obtain ⟨c0, c1, c2, c3⟩ := (x0.belowB hb1 x0.lt).c4)
  clear hV hU b0 b1 b2 b3 b4 b5 b6 b7 hownU hLU u0 c0 c1 c2 c3 p4
  have Bw1 := hB.trans (hb1.mono hB.size)
  obtain ⟨al, HAL⟩ : ∃ al, Hid (⟨s, A, c⟩ :: es = al) := ⟨_, Lib.hid rfl⟩
  rw [show ([⟨s, A, c⟩] ++ es : List SE) = al from HAL.out] at hown1
  have hall : al.length ≤ 5 := by rw [← HAL.out]; simp; omega
  obtain ⟨LB, lb, rfl, hSB⟩ := own_slice (by decide) hown1
  have z0 := x0.belowB hb1 x0.lt
  have z1 := x1.belowB hb1 x1.lt
  have hg1 := (hg.below Bw1).more Bw1.size
  have hp1 := (hp.below Bw1).more Bw1.size
  have hS1 := (hS.below Bw1).more Bw1.size
  have hL1 := (hL.below Bw1).more Bw1.size
  have hP1 := hP.below Bw1
  have ht1 := ht.kept Bw1
  have hPB : Pats w1 al := by rw [← HAL.out]; exact Pats.cons hS1 hP1
  clear x0 x1 hown1 hB hBU BU
  refine (lsmall_any W H GA PA gc pc G.length P.length LB lb al w1 hSB (by omega)).mono ?_
  rintro e w2 ⟨rfl, hb2⟩
  have B2 := after_ Bw1 hb2
  replace z0 := z0.below hb2
  replace z1 := z1.below hb2
  replace hg1 := (hg1.below hb2).more hb2.size
  replace hp1 := (hp1.below hb2).more hb2.size
  replace hS1 := (hS1.below hb2).more hb2.size
  replace hL1 := (hL1.below hb2).more hb2.size
  replace hSB := (hSB.below hb2).more hb2.size
  replace hP1 := hP1.below hb2
  replace hPB := hPB.below hb2
  replace ht1 := ht1.kept hb2
  cases hsm : M.small W H G.length P.length 49 (al.map (·.s)) with
  | false =>
    go_wp2_with fail
    refine (known_any w2 ht1).mono ?_
    rintro e w3 ⟨rfl, hb3⟩
    go_wp2_with fail
    go_ret
    exact ⟨rfl, after_ B2 hb3⟩
  | true =>
    obtain ⟨hgl, hpl, hpa⟩ := M.smallL hsm
    have hps : s.pat.length ≤ 20 := hpa ⟨s, A, c⟩ (by rw [← HAL.out]; simp)
    have HPE : Hid (∀ e ∈ es, e.s.pat.length ≤ 1000) := Lib.hid (fun e he => Nat.le_trans (hpa e (by rw [← HAL.out]; simp [he])) (by omega))
    have HPA : Hid (∀ e ∈ al, e.s.pat.length ≤ 1000) := Lib.hid (fun e he => Nat.le_trans (hpa e he) (by omega))
    clear hsm hpa
    have kU := iunion_any W H GA PA gc pc G P s A c LA lc es w2 ht1 hg1 hp1 hS1 hL1 hP1 (by omega) (by omega) (by omega) (by omega) HPE.out
    obtain ⟨n1, e1, hn⟩ : ∃ n1 e1, M.peoR W H G P s 0 (es.map (·.s)) = (n1, e1) := ⟨_, _, rfl⟩
    rw [hn] at kU
    simp only at kU
    have HN := Lib.hid hn
    clear hn
    obtain ⟨c0, c1, c2, c3⟩ := z0.c4
    obtain ⟨b0, b1, b2, b3, b4, b5, b6, b7⟩ := z1.c8
    go_wp2_with fail
    clear c0 c1 c2 c3 b0 b1 b2 b3 b4 b5 b6 b7
    refine kU.mono ?_
    rintro e w3 ⟨rfl, hb3⟩
    clear kU
    have B3 := after_ B2 hb3
    replace z0 := z0.below hb3
    replace z1 := z1.below hb3
    replace hg1 := (hg1.below hb3).more hb3.size
    replace hp1 := (hp1.below hb3).more hb3.size
    replace hS1 := (hS1.below hb3).more hb3.size
    replace hL1 := (hL1.below hb3).more hb3.size
    replace hSB := (hSB.below hb3).more hb3.size
    replace hP1 := hP1.below hb3
    replace hPB := hPB.below hb3
    replace ht1 := ht1.kept hb3
    obtain ⟨c0, c1, c2, c3⟩ := z0.c4
    go_wp2_with fail
    clear c0 c1 c2 c3
    refine (rAllowed15_any W H GA PA gc pc G P LB lb al w3 hg1 hp1 hSB hPB (by omega) (by omega) HPA.out).mono ?_
    rintro e w4 ⟨rfl, hb4⟩
    have B4 := after_ B3 hb4
    replace z0 := z0.below hb4
    replace z1 := z1.below hb4
    replace hg1 := (hg1.below hb4).more hb4.size
    replace hp1 := (hp1.below hb4).more hb4.size
    replace hS1 := (hS1.below hb4).more hb4.size
    replace hL1 := (hL1.below hb4).more hb4.size
    replace hP1 := hP1.below hb4
    replace ht1 := ht1.kept hb4
    clear hSB hPB
    rw [show al.map (·.s) = s :: es.map (·.s) by rw [← HAL.out]; rfl]
    cases hal : M.allowed W H G P (s :: es.map (·.s)) with
    | false =>
      have hh := HN.out
      unfold M.peoR at hh
      rw [M.allowedN hal, if_neg (by decide)] at hh
      obtain ⟨rfl, rfl⟩ := Prod.mk.inj hh
      clear hh HN hal
      go_wp2_with fail
      refine (known_any w4 ht1).mono ?_
      rintro e w5 ⟨rfl, hb5⟩
      go_wp2_with fail
      go_ret
      exact ⟨rfl, after_ B4 hb5⟩
    | true =>
      obtain ⟨hos, hob⟩ := M.allowedL hal
      have hh := HN.out
      unfold M.peoR at hh
      rw [M.lostOkL hos hob, if_pos rfl, show M.ratio 0 = 30 from rfl] at hh
      obtain ⟨hh1, rfl⟩ := Prod.mk.inj hh
      have HN1 := Lib.hid hh1
      clear hh HN hal hh1
      obtain ⟨-, htv, -, -⟩ := M.okS_iff.1 hos
      obtain ⟨r1, r2, r3, r4, r5, r6⟩ := M.tvalid_iff.1 htv
      have hll : (M.lost W H G s 30 (es.map (·.s))).length ≤ 4096 := M.lost_len4 htv
      have hn1 := M.totl_bd (l := M.lost W H G s 30 (es.map (·.s))) r6 (by omega)
      rw [HN1.out] at hn1
      have HOS := Lib.hid hos
      have HOB : Hid (∀ e ∈ es, M.okS W H G P e.s = true) := Lib.hid (fun e he => hob e.s (List.mem_map.2 ⟨e, he, rfl⟩))
      have HR6 := Lib.hid r6
      have HTV := Lib.hid htv
      clear hos hob htv r5 r6 hll
      go_wp2_with fail
      go_loopw [10, 11, 12, 13, 14] (fun back sum i _ _ wr => ∃ (m : Nat) (bs : List SE) (sm : Int), m ≤ es.length ∧ i = .int .i64 ((m : Int) - 1) ∧ sum = .int .i64 sm ∧ Below w.heap.size w wr ∧ Below w4.heap.size w4 wr ∧ bs.length + m ≤ es.length ∧ (0 ≤ sm ∧ sm ≤ 100000000000 * ((es.length - m : Nat) : Int)) ∧ wr.ownsRow w4.heap.size 28 8 back bs.length (flat 8 secell bs) ∧ Hid (bs = (es.drop m).reverse) ∧ Hid (sm = M.sumOne W H G P s ((es.drop m).map (·.s)))) (fun _ _ i _ _ _ => (intOf i + 1).toNat)
      case atStart => exact ⟨es.length, [], 0, Nat.le_refl _, rfl, rfl, B4, Below.refl _ _, by simp, by omega, own_nil _ _ _ _ _, Lib.hid (by simp), Lib.hid (by simp [M.sumOne])⟩
      case round =>
        obtain ⟨m, bs, sm, hm, rfl, rfl, hBw, hBr, hbl, hsm, hown, HB, HS⟩ := hrel
        cases m with
        | succ m =>
          have hlt : m < es.length := hm
          have e0 : ((m + 1 : Nat) : Int) - 1 = (m : Int) := by omega
          rw [e0]
          clear e0
          obtain ⟨la, hla, hlb, at4⟩ := hL1.at8 hlt
          have hSk := hP1.at_ hlt
          have hpk := HPE.out _ (List.getElem_mem hlt)
          have HKO := Lib.hid (HOB.out es[m] (List.getElem_mem hlt))
          have HD := Lib.hid (drop_rev hlt)
          have HSD := Lib.hid (sumOne_drop (W := W) (H := H) (G := G) (P := P) (a := s) hlt)
          have HLE := Lib.hid (M.lost_one_le (W := W) (H := H) (G := G) (P := P) (a := s) (l := es.map (·.s)) (b := es[m].s) HR6.out (List.mem_map.2 ⟨_, List.getElem_mem hlt, rfl⟩))
          generalize es[m] = ek at *
          obtain ⟨t, A', c'⟩ := ek
          simp only at at4 hSk hpk HKO HD HSD HLE
          obtain ⟨o1, HO1⟩ : ∃ o1, Hid (M.total P (M.lost W H G s 30 [t]) = o1) := ⟨_, Lib.hid rfl⟩
          have hobd := M.totl_bd (l := M.lost W H G s 30 [t]) HR6.out (Nat.le_trans (M.lost_len4 HTV.out) (by omega))
          rw [HO1.out] at hobd HSD HLE
          rw [HN1.out] at HLE
          have q1 : decide (n1 < o1) = false := decide_eq_false (by have := HLE.out; omega)
          have hsm2 : sm + o1 ≤ 500000000000 := by have : ((es.length - (m + 1) : Nat) : Int) ≤ 3 := by omega
                                                   omega
          have i1 : (0 : Int) ≤ (m : Int) := by omega
          have i2 : (m : Int) < (es.length : Int) := by omega
          have kP : Hid (∀ w2, Tab w2 → Sl 1 icell w2 w2.heap.size GA G → Sl 1 icell w2 w2.heap.size PA P → Sl 1 icell w2 w2.heap.size A s.pat → Sl 1 icell w2 w2.heap.size A' t.pat → Calls Tryz.prog 16 #[tv W H GA PA G.length gc P.length pc, stv s A c, stv t A' c', .int .i64 0] w2 fun e w' => e = .returned (.tuple #[.int .i64 o1, .int .i64 0]) ∧ Below w2.heap.size w2 w') := Lib.hid (fun w2 t1 t2 t3 t4 t5 => by
            have k := ipeople_any W H GA PA gc pc G P s t A A' c c' 0 w2 t1 t2 t3 t4 t5 (by omega) (by omega) (by omega) (by omega)
            unfold M.peoR at k
            rw [show M.lostOk W H G P s 0 [t] = true from M.lostOkL HOS.out (fun b hb => by rw [List.mem_singleton] at hb; subst hb; exact HKO.out), if_pos rfl, show M.ratio 0 = 30 from rfl, HO1.out] at k
            exact k)
          subst hla
          obtain ⟨a0, a1, a2, a3, a4, a5, a6, a7⟩ := at4.below hBr hlb
          have e2 : (bs.length + 1 : Nat) * 80 ≤ 140737488355328 := by omega
          go_wp2_with (at_builtin; refine wpList_push (w0 := w4) (cell := secell) (y := ⟨t, A', c'⟩) rfl _ _ _ rfl w4.heap.size w4.heap.size 28 i8 _ 80 Tryz.underlying29 Hi.out Hz0.out Hz1.out Hz2.out rfl (by decide) _ _ _ rfl hown _ _ rfl _ rfl (se_one _) (by unfold maxLen; omega) e2 hBr.size (Nat.le_refl _) hBr ?_; intro v' w5 hown5 hb5 hg5)
          clear a0 a1 a2 a3 a4 a5 a6 a7 e2
          have y0 := z0.below hb5
          have y1 := z1.below hb5
          obtain ⟨c0, c1, c2, c3⟩ := y0.c4
          obtain ⟨b0, b1, b2, b3, b4, b5, b6, b7⟩ := y1.c8
          obtain ⟨a0, a1, a2, a3, a4, a5, a6, a7⟩ := at4.below hb5 hlb
          have l0 := y0.lt
          have l1 := y1.lt
          have l2 : (la.add (m * 8)).block < w5.heap.size := by have := hb5.size; omega
          have B5 := after_ B4 hb5
          have hSk5 := (hSk.below hb5).more hb5.size
          have hg5' := (hg1.below hb5).more hb5.size
          have hp5' := (hp1.below hb5).more hb5.size
          have hS5' := (hS1.below hb5).more hb5.size
          have ht5 := ht1.kept hb5
          refine wp_region_kept w5.heap.size w5 (by kernel_rfl) (by kernel_rfl) (Below.refl _ _) ?_
          repeat (go_big_quiet_step ((first | (go_at_call 16; exact Kept.calls (Nat.le_refl _) (kP.out _ ht5.keptU hg5'.kept hp5'.kept hS5'.kept hSk5.kept)))))
          refine wpQuiet_nil ?_
          rintro w6 ⟨⟨_, hb6⟩, rfl⟩
          clear a0 a1 a2 a3 a4 a5 a6 a7 c0 c1 c2 c3 b0 b1 b2 b3 b4 b5 b6 b7 l0 l1 l2 i1 i2
          have hown6 := own_below hown5 hb6
          have B6 := after_ B5 hb6
          have B46 := after_ hb5 hb6
          have HS2 : Hid (sm + o1 = M.sumOne W H G P s ((es.drop m).map (·.s))) := Lib.hid (by rw [HSD.out, ← HS.out])
          have HB2 : Hid (bs ++ [⟨t, A', c'⟩] = (es.drop m).reverse) := Lib.hid (by rw [HD.out, ← HB.out])
          have hsn : (((es.length - m : Nat) : Int)) = ((es.length - (m + 1) : Nat) : Int) + 1 := by omega
          have hsm3 : 0 ≤ sm + o1 ∧ sm + o1 ≤ 100000000000 * ((es.length - m : Nat) : Int) := by omega
          have HSM := Lib.hid hsm3
          clear hsn hsm3
          go_wp2_with fail
          go_roundw
          case rel => exact ⟨m, bs ++ [⟨t, A', c'⟩], sm + o1, by omega, by go_num, rfl, B6, B46, by rw [List.length_append]; simp; omega, HSM.out, by rw [List.length_append]; exact hown6, HB2, HS2⟩
          case measure => simp [intOf]
        | zero =>
          have hb0 : bs = es.reverse := by have := HB.out; rwa [List.drop_zero] at this
          have hs0 : sm = M.sumOne W H G P s (es.map (·.s)) := by have := HS.out; rwa [List.drop_zero] at this
          have hle : n1 ≤ sm := by rw [hs0, ← HN1.out]; exact M.lost_le_sum HR6.out _
          have q1 : decide (n1 ≤ sm) = true := decide_eq_true hle
          have q2 : (n1 == n1) = true := by simp
          have HB0 := Lib.hid hb0
          clear hb0 hs0 hle
          have hPb : Pats wr bs := by rw [HB0.out]; exact (hP1.below hBr).rev
          have HPb : Hid (∀ e ∈ bs, e.s.pat.length ≤ 1000) := Lib.hid (fun e he => HPE.out e (by rw [HB0.out] at he; exact List.mem_reverse.1 he))
          obtain ⟨BA, bc, rfl, hSb⟩ := own_slice (by decide) hown
          have kU := iunion_any W H GA PA gc pc G P s A c BA bc bs wr (ht1.kept hBr) ((hg1.below hBr).more hBr.size) ((hp1.below hBr).more hBr.size) ((hS1.below hBr).more hBr.size) hSb hPb (by omega) (by omega) (by omega) (by omega) HPb.out
          unfold M.peoR at kU
          rw [show M.lostOk W H G P s 0 (bs.map (·.s)) = true from M.lostOkL HOS.out (fun b hb => by rw [HB0.out] at hb; obtain ⟨e, he, rfl⟩ := List.mem_map.1 hb; exact HOB.out e (List.mem_reverse.1 he)), if_pos rfl, show M.ratio 0 = 30 from rfl, show M.total P (M.lost W H G s 30 (bs.map (·.s))) = n1 by rw [HB0.out, List.map_reverse, M.lost_rev]; exact HN1.out] at kU
          simp only at kU
          have y0 := z0.below hBr
          have y1 := z1.below hBr
          obtain ⟨c0, c1, c2, c3⟩ := y0.c4
          obtain ⟨b0, b1, b2, b3, b4, b5, b6, b7⟩ := y1.c8
          rw [show (((0 : Nat) : Int) - 1) = -1 from rfl]
          go_wp2_with fail
          refine kU.mono ?_
          rintro e w6 ⟨rfl, hb6⟩
          clear c0 c1 c2 c3 b0 b1 b2 b3 b4 b5 b6 b7 kU
          have B6 := after_ hBw hb6
          have B46 := after_ hBr hb6
          have u0 := y0.below hb6
          have u1 := y1.below hb6
          obtain ⟨c0, c1, c2, c3⟩ := u0.c4
          obtain ⟨b0, b1, b2, b3, b4, b5, b6, b7⟩ := u1.c8
          have kR := rUnion15_ok W H GA PA gc pc G P s A c LA lc es w6 ((hg1.below B46).more B46.size) ((hp1.below B46).more B46.size) ((hS1.below B46).more B46.size) ((hL1.below B46).more B46.size) (hP1.below B46) (by omega) HOS.out HOB.out
          rw [M.lostAll_total, HN1.out] at kR
          go_wp2_with fail
          refine kR.mono ?_
          rintro e w7 ⟨rfl, hb7⟩
          clear c0 c1 c2 c3 b0 b1 b2 b3 b4 b5 b6 b7 kR
          go_wp2_with fail
          refine (known_any w7 ((ht1.kept B46).kept hb7)).mono ?_
          rintro e w8 ⟨rfl, hb8⟩
          go_wp2_with fail
          go_ret
          exact ⟨rfl, after_ (after_ B6 hb7) hb8⟩
end Go.Proofs.YtohkbblfcjmmnaaGreatDoor
