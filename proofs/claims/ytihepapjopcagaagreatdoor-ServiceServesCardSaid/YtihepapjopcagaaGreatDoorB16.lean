/- A bundle of texts: Lost, Int2, Ref15, Ref15b, HoMath, UnMath, ReachS. -/
import Derived.Test.YtihepapjopcagaaGreatDoorB15
import Derived.Test.YtihepapjopcagaaGreatDoorB13
import Derived.Test.YtihepapjopcagaaGreatDoorB14
import Derived.Maps.OwnIn
import Derived.Deep.RegionHeld3
/- Layer 10: At; layer 15: lost. -/
section
namespace Go.Proofs.YtihepapjopcagaaGreatDoor
open Go Go.RowKit
set_option maxRecDepth 100000

/-- Whether a terrain is valid and has a cell with an index. -/
def M.okI (W H : Int) (G P : List Int) (i : Int) : Bool := M.tvalid W H G P && M.isIn i 0 (W * H - 1)

/-- What lost answers. -/
def M.lost (W H : Int) (G : List Int) (a : St) (r : Int) (l : List St) : List Int := ((List.range (W * H).toNat).filter fun (i : Nat) => M.cov W G a (M.cx W i) (M.cy W i) && M.dist W G a r (M.cx W i) (M.cy W i) l).map fun (i : Nat) => (i : Int)
theorem M.lost_area (W H : Int) (G : List Int) (a : St) (r : Int) (l : List St) : (M.area W H G a).filter (fun x => M.dist W G a r (M.cx W x.toNat) (M.cy W x.toNat) l) = M.lost W H G a r l := by
  unfold M.area M.areaTo M.lost
  rw [List.filter_map, List.filter_filter]
  congr 1
  apply List.filter_congr
  intro i _
  simp [Function.comp, Bool.and_comm]
theorem M.lost_in {W H : Int} {G : List Int} {a : St} {r : Int} {l : List St} : ∀ x ∈ M.lost W H G a r l, 0 ≤ x ∧ x < W * H := by
  intro x hx
  unfold M.lost at hx
  obtain ⟨i, hi, rfl⟩ := List.mem_map.1 hx
  have := List.mem_range.1 (List.mem_filter.1 hi).1
  omega
theorem M.lost_len {W H : Int} {G : List Int} {a : St} {r : Int} {l : List St} : (M.lost W H G a r l).length ≤ (W * H).toNat := by
  unfold M.lost
  rw [List.length_map]
  have := List.length_filter_le (fun (i : Nat) => M.cov W G a (M.cx W i) (M.cy W i) && M.dist W G a r (M.cx W i) (M.cy W i) l) (List.range (W * H).toNat)
  simpa using this
def M.lostOk (W H : Int) (G P : List Int) (a : St) (o : Int) (l : List St) : Bool := M.okOff o && l.all (M.okS W H G P) && M.okS W H G P a
def M.lostR (W H : Int) (G P : List Int) (a : St) (o : Int) (l : List St) : List Int × Int := if M.lostOk W H G P a o l = true then (M.lost W H G a (M.ratio o) l, 0) else ([], 2)
theorem RetL.none_ {w w' : World} {l : List Int} {e : Int} (h : (l, e) = ([], 2)) (hB : Below w.heap.size w w') : RetL 1 icell w l e (.returned (.tuple #[.slice Option.none 0 0, .int .i64 2])) w' := by
  obtain ⟨rfl, rfl⟩ := Prod.mk.inj h
  exact ⟨Option.none, 0, rfl, Sl.nil_, hB⟩

end Go.Proofs.YtihepapjopcagaaGreatDoor
end

/- Layer 15: Cells, People, Union, Exceeds, Hit. -/
section
namespace Go.Proofs.YtihepapjopcagaaGreatDoor
open Go Go.RowKit
set_option maxRecDepth 100000

def M.peoR (W H : Int) (G P : List Int) (a : St) (o : Int) (l : List St) : Int × Int := if M.lostOk W H G P a o l = true then (M.total P (M.lost W H G a (M.ratio o) l), 0) else (0, 2)
theorem M.lostOk_tv {W H : Int} {G P : List Int} {a : St} {o : Int} {l : List St} (h : M.lostOk W H G P a o l = true) : M.tvalid W H G P = true ∧ M.okS W H G P a = true := by
  unfold M.lostOk at h
  rw [Bool.and_eq_true] at h
  exact ⟨(M.okS_iff.1 h.2).2.1, h.2⟩
theorem M.total_bd {P l : List Int} (hP : ∀ g ∈ P, 0 ≤ g ∧ g ≤ 1000000) (hl : l.length ≤ 4096) : 0 ≤ M.total P l ∧ M.total P l ≤ 4096000000 := by
  have := M.totTo_bd (l := l) hP l.length
  unfold M.total
  omega
theorem M.lost_len4 {W H : Int} {G P : List Int} {a : St} {r : Int} {l : List St} (htv : M.tvalid W H G P = true) : (M.lost W H G a r l).length ≤ 4096 := by
  obtain ⟨r1, r2, -⟩ := M.tvalid_iff.1 htv
  obtain ⟨wh1, wh2⟩ := M.wh_le r1 r2
  exact Nat.le_trans M.lost_len (by omega)
theorem ret_ii {a b : Int} {r : Int × Int} (h : r = (a, b)) : Ending.returned (.tuple #[.int .i64 a, .int .i64 b]) = .returned (.tuple #[.int .i64 r.1, .int .i64 r.2]) := by rw [h]

def M.excR (W H : Int) (G P : List Int) (a b : St) (o s : Int) : Bool × Int := if (M.isIn s 0 1000 && M.lostOk W H G P a o [b]) = true then (decide (s * M.total P (M.area W H G a) < 1000 * M.total P (M.lost W H G a (M.ratio o) [b])), 0) else (false, 2)

end Go.Proofs.YtihepapjopcagaaGreatDoor
end

/- The references of layer 15: Small, Allowed, Hit, Cells, People, Exceeds. -/
section
namespace Go.Proofs.YtihepapjopcagaaGreatDoor
open Go Go.RowKit
set_option maxRecDepth 100000

def M.small (W H : Int) (gl pl : Nat) (n : Int) (l : List St) : Bool := (l.all fun s => decide (s.pat.length ≤ 20)) && (decide (W ≤ 64) && decide (H ≤ 64) && decide (-64 ≤ W) && decide (-64 ≤ H) && decide (W * H ≤ n) && decide ((gl : Int) ≤ n) && decide ((pl : Int) ≤ n))

def M.allowed (W H : Int) (G P : List Int) (l : List St) : Bool := M.tvalid W H G P && l.all (M.okS W H G P)
end Go.Proofs.YtihepapjopcagaaGreatDoor
end

/- The references of layer 15: Hit, Cells, People, Exceeds; the program's Hit and Union. -/
section
namespace Go.Proofs.YtihepapjopcagaaGreatDoor
open Go Go.RowKit
set_option maxRecDepth 100000

def M.hit (W : Int) (G : List Int) (a b : St) (r : Int) (i : Nat) : Bool := M.cov W G a (M.cx W i) (M.cy W i) && M.dist W G a r (M.cx W i) (M.cy W i) [b]
def M.lostTo (W : Int) (G : List Int) (a b : St) (r : Int) (n : Nat) : List Int := ((List.range n).filter fun (i : Nat) => M.hit W G a b r i).map fun (i : Nat) => (i : Int)
theorem M.lostTo_eq (W H : Int) (G : List Int) (a b : St) (r : Int) : M.lost W H G a r [b] = M.lostTo W G a b r (W * H).toNat := rfl
theorem M.lostTo_succ (W : Int) (G : List Int) (a b : St) (r : Int) (n : Nat) : M.lostTo W G a b r (n + 1) = M.lostTo W G a b r n ++ if M.hit W G a b r n then [(n : Int)] else [] := by
  unfold M.lostTo
  rw [List.range_succ, List.filter_append, List.map_append]
  congr 1
  by_cases h : M.hit W G a b r n = true
  · simp [h]
  · simp [h]
theorem M.lostTo_len (W : Int) (G : List Int) (a b : St) (r : Int) (n : Nat) : (M.lostTo W G a b r n).length ≤ n := by
  unfold M.lostTo
  rw [List.length_map]
  have := List.length_filter_le (fun (i : Nat) => M.hit W G a b r i) (List.range n)
  simpa using this
theorem M.dist1 (W : Int) (G : List Int) (a b : St) (r cx cy : Int) : M.dist W G a r cx cy [b] = decide (M.field W G a cx cy - M.field W G b cx cy < r) := by
  unfold M.dist
  simp

end Go.Proofs.YtihepapjopcagaaGreatDoor
end

/- The plain laws behind InterfereHolds. -/
section
namespace Go.Proofs.YtihepapjopcagaaGreatDoor
namespace M
theorem filter_one {b : List Int} (hb : b.Nodup) {x : Int} (hx : x ∈ b) : (b.filter fun y => decide (y = x)) = [x] := by
  induction b with
  | nil => cases hx
  | cons y b ih =>
    rw [List.nodup_cons] at hb
    by_cases h : y = x
    · subst h
      have : (b.filter fun z => decide (z = y)) = [] := by
        rw [List.filter_eq_nil_iff]
        intro z hz hd
        rw [decide_eq_true_eq] at hd
        subst hd
        exact hb.1 hz
      simp [this]
    · have hx2 : x ∈ b := by
        rcases List.mem_cons.1 hx with e | e
        · exact absurd e.symm h
        · exact e
      rw [List.filter_cons]
      simp only [h, decide_false, Bool.false_eq_true, if_false]
      exact ih hb.2 hx2
theorem both_sub {a b : List Int} (hb : b.Nodup) (h : ∀ x ∈ a, x ∈ b) : both a b = a := by
  unfold both
  induction a with
  | nil => rfl
  | cons x a ih =>
    rw [List.flatMap_cons, filter_one hb (h x (by simp)), ih (fun y hy => h y (by simp [hy]))]
    rfl
theorem cast_nodup (p : Nat → Bool) (n : Nat) : (((List.range n).filter p).map fun (i : Nat) => (i : Int)).Nodup := by
  refine List.pairwise_map.2 ?_
  refine List.Pairwise.imp ?_ (List.Pairwise.filter p List.nodup_range)
  intro a b h e
  exact h (by omega)
theorem cast_sub {p q : Nat → Bool} (n : Nat) (h : ∀ i, p i = true → q i = true) : ∀ x ∈ ((List.range n).filter p).map (fun (i : Nat) => (i : Int)), x ∈ ((List.range n).filter q).map (fun (i : Nat) => (i : Int)) := by
  intro x hx
  obtain ⟨i, hi, rfl⟩ := List.mem_map.1 hx
  obtain ⟨h1, h2⟩ := List.mem_filter.1 hi
  exact List.mem_map.2 ⟨i, List.mem_filter.2 ⟨h1, h i h2⟩, rfl⟩
theorem lost_both_area (W H : Int) (G : List Int) (a : St) (r : Int) (l : List St) : both (lost W H G a r l) (area W H G a) = lost W H G a r l :=
  both_sub (cast_nodup _ _) (cast_sub _ (fun i h => by rw [Bool.and_eq_true] at h; exact h.1))
theorem dist_mono {W : Int} {G : List Int} {a b : St} {r r' cx cy : Int} (hr : r ≤ r') (h : dist W G a r cx cy [b] = true) : dist W G a r' cx cy [b] = true := by
  rw [dist1, decide_eq_true_eq] at *
  omega
theorem lost_both_ratio (W H : Int) (G : List Int) (a b : St) {r r' : Int} (hr : r ≤ r') : both (lost W H G a r [b]) (lost W H G a r' [b]) = lost W H G a r [b] :=
  both_sub (cast_nodup _ _) (cast_sub _ (fun i h => by rw [Bool.and_eq_true] at h ⊢; exact ⟨h.1, dist_mono hr h.2⟩))
/-- The other station with more power. -/
def strg (b : St) (more : Int) : St := ⟨b.id, b.x, b.y, b.pw + more, b.h, b.pat, b.band, b.ch⟩
theorem strg_field (W : Int) (G : List Int) (b : St) (more cx cy : Int) : field W G (strg b more) cx cy = field W G b cx cy + more := by
  unfold field strg
  dsimp only
  omega
theorem lost_both_strong (W H : Int) (G : List Int) (a b : St) (r : Int) {more : Int} (hm : 0 ≤ more) : both (lost W H G a r [b]) (lost W H G a r [strg b more]) = lost W H G a r [b] :=
  both_sub (cast_nodup _ _) (cast_sub _ (fun i h => by
    rw [Bool.and_eq_true] at h ⊢
    refine ⟨h.1, ?_⟩
    have h2 := h.2
    rw [dist1, decide_eq_true_eq] at h2 ⊢
    rw [strg_field]
    omega))
theorem strg_ok {W H : Int} {G P : List Int} {b : St} {more : Int} (h : okS W H G P b = true) (h0 : 0 ≤ more) (h1 : b.pw + more ≤ 300) : okS W H G P (strg b more) = true := by
  obtain ⟨hs, ht, hx, hy⟩ := okS_iff.1 h
  refine okS_iff.2 ⟨?_, ht, hx, hy⟩
  obtain ⟨a, b', c, d, e, f, g⟩ := svalid_iff.1 hs
  exact svalid_iff.2 ⟨a, b', c, by unfold strg; dsimp only; omega, e, f, g⟩
def pv (P : List Int) (x : Int) : Int := P.getD x.toNat 0
theorem totTo_sum {P l : List Int} (hn : l.Nodup) : ∀ k, k ≤ l.length → totTo P l k = ((l.take k).map (pv P)).sum
  | 0, _ => rfl
  | k + 1, hk => by
    have hkl : k < l.length := by omega
    rw [totTo_succ hkl, totTo_sum hn k (by omega), List.take_succ_eq_append_getElem hkl, List.map_append, List.sum_append]
    have hni : ¬ l[k] ∈ l.take k := by
      intro hm
      obtain ⟨j, hj, e⟩ := List.getElem_of_mem hm
      rw [List.getElem_take] at e
      have hjk : j < k := by simp at hj; omega
      exact List.pairwise_iff_getElem.1 hn j k (by omega) hkl hjk e
    rw [if_neg hni]
    simp [pv]
theorem total_sum {P l : List Int} (hn : l.Nodup) : total P l = (l.map (pv P)).sum := by
  unfold total
  rw [totTo_sum hn _ (Nat.le_refl _), List.take_length]
theorem sum_sub {f : Int → Int} (hf : ∀ x, 0 ≤ f x) {a b : List Int} (h : a.Sublist b) : (a.map f).sum ≤ (b.map f).sum := by
  induction h with
  | slnil => simp
  | cons x _ ih => have := hf x; simp; omega
  | cons_cons x _ ih => simp; omega
theorem pv_nonneg {P : List Int} (hP : ∀ g ∈ P, 0 ≤ g ∧ g ≤ 1000000) (x : Int) : 0 ≤ pv P x := by
  unfold pv
  by_cases hj : x.toNat < P.length
  · have := hP P[x.toNat] (List.getElem_mem hj)
    simp [hj]; omega
  · simp [Nat.le_of_not_lt hj]
theorem lost_total_le {W H : Int} {G P : List Int} {a : St} {r : Int} {l : List St} (hP : ∀ g ∈ P, 0 ≤ g ∧ g ≤ 1000000) : total P (lost W H G a r l) ≤ total P (area W H G a) := by
  rw [total_sum (l := lost W H G a r l) (cast_nodup _ _), total_sum (l := area W H G a) (cast_nodup _ _)]
  refine sum_sub (pv_nonneg hP) ?_
  rw [← lost_area]
  exact List.filter_sublist
end M
end Go.Proofs.YtihepapjopcagaaGreatDoor
end

/- The plain laws behind InterfereUnions: the people of cells depend on which cells there are, not on their order. -/
section
namespace Go.Proofs.YtihepapjopcagaaGreatDoor
namespace M
/-- The people of the cells below n that a test allows. -/
def sumB (P : List Int) (n : Nat) (p : Nat → Bool) : Int := ((List.range n).map fun i => if p i then P.getD i 0 else 0).sum
theorem sumB_zero (P : List Int) (p : Nat → Bool) : sumB P 0 p = 0 := rfl
theorem sumB_succ (P : List Int) (n : Nat) (p : Nat → Bool) : sumB P (n + 1) p = sumB P n p + if p n then P.getD n 0 else 0 := by
  unfold sumB
  rw [List.range_succ, List.map_append, List.sum_append]
  simp
theorem sumB_congr {P : List Int} {p q : Nat → Bool} : ∀ {n : Nat}, (∀ i, i < n → p i = q i) → sumB P n p = sumB P n q
  | 0, _ => rfl
  | n + 1, h => by rw [sumB_succ, sumB_succ, sumB_congr (fun i hi => h i (by omega)), h n (by omega)]
theorem getD_nonneg {P : List Int} (hP : ∀ g ∈ P, 0 ≤ g ∧ g ≤ 1000000) (i : Nat) : 0 ≤ P.getD i 0 := by
  by_cases hj : i < P.length
  · have := hP P[i] (List.getElem_mem hj)
    simp [hj]; omega
  · simp [Nat.le_of_not_lt hj]
theorem sumB_mono {P : List Int} (hP : ∀ g ∈ P, 0 ≤ g ∧ g ≤ 1000000) {p q : Nat → Bool} : ∀ {n : Nat}, (∀ i, i < n → p i = true → q i = true) → sumB P n p ≤ sumB P n q
  | 0, _ => by simp [sumB_zero]
  | n + 1, h => by
    have ih := sumB_mono hP (n := n) (fun i hi => h i (by omega))
    have g := getD_nonneg hP n
    rw [sumB_succ, sumB_succ]
    by_cases hp : p n = true
    · rw [if_pos hp, if_pos (h n (by omega) hp)]; omega
    · rw [if_neg hp]
      split <;> omega
theorem sumB_or {P : List Int} (hP : ∀ g ∈ P, 0 ≤ g ∧ g ≤ 1000000) {p q : Nat → Bool} : ∀ {n : Nat}, sumB P n (fun i => p i || q i) ≤ sumB P n p + sumB P n q
  | 0 => by simp [sumB_zero]
  | n + 1 => by
    have ih := sumB_or hP (p := p) (q := q) (n := n)
    have g := getD_nonneg hP n
    rw [sumB_succ, sumB_succ, sumB_succ]
    cases p n <;> cases q n <;> simp only [Bool.or_false, Bool.or_true, Bool.false_eq_true, if_false, if_true] <;> omega
theorem sumB_add1 {P : List Int} {p : Nat → Bool} {x : Nat} (hx : p x = false) : ∀ {n : Nat}, sumB P n (fun i => p i || decide (i = x)) = sumB P n p + if x < n then P.getD x 0 else 0
  | 0 => by simp [sumB_zero]
  | n + 1 => by
    rw [sumB_succ, sumB_succ, sumB_add1 hx]
    by_cases e : n = x
    · subst e
      simp [hx]
    · by_cases h : x < n
      · simp [e, h, show x < n + 1 by omega]; omega
      · simp [e, h, show ¬ x < n + 1 by omega]
theorem totTo_sumB {P l : List Int} {n : Nat} (hin : ∀ x ∈ l, 0 ≤ x ∧ x < (n : Int)) : ∀ k, k ≤ l.length → totTo P l k = sumB P n (fun i => decide ((i : Int) ∈ l.take k))
  | 0, _ => by
    rw [sumB_congr (q := fun _ => false) (fun i _ => by simp)]
    show (0 : Int) = _
    clear hin
    induction n with
    | zero => rfl
    | succ n ih => rw [sumB_succ, ← ih]; rfl
  | k + 1, hk => by
    have hkl : k < l.length := by omega
    have hx := hin l[k] (List.getElem_mem hkl)
    obtain ⟨x, hxe⟩ : ∃ x : Nat, l[k] = (x : Int) := ⟨l[k].toNat, by omega⟩
    rw [totTo_succ hkl, totTo_sumB hin k (by omega), List.take_succ_eq_append_getElem hkl, hxe, Int.toNat_natCast]
    rw [hxe] at hx
    by_cases hm : (x : Int) ∈ l.take k
    · rw [if_pos hm, Int.add_zero]
      refine sumB_congr fun i _ => ?_
      by_cases e : i = x
      · subst e; simp [hm]
      · have : ¬ (i : Int) = (x : Int) := by omega
        simp [this]
    · rw [if_neg hm]
      have := sumB_add1 (P := P) (p := fun i => decide ((i : Int) ∈ l.take k)) (x := x) (by simpa using hm) (n := n)
      rw [if_pos (by omega)] at this
      rw [← this]
      refine sumB_congr fun i _ => ?_
      simp only [List.mem_append, List.mem_singleton, Bool.decide_or]
      congr 1
      by_cases e : i = x
      · subst e; simp
      · have : ¬ (i : Int) = (x : Int) := by omega
        simp [e, this]
theorem total_sumB {P l : List Int} {n : Nat} (hin : ∀ x ∈ l, 0 ≤ x ∧ x < (n : Int)) : total P l = sumB P n (fun i => decide ((i : Int) ∈ l)) := by
  unfold total
  rw [totTo_sumB hin _ (Nat.le_refl _), List.take_length]
theorem total_same {P l l' : List Int} {n : Nat} (hin : ∀ x ∈ l, 0 ≤ x ∧ x < (n : Int)) (h : ∀ x, x ∈ l ↔ x ∈ l') : total P l = total P l' := by
  rw [total_sumB hin, total_sumB (fun x hx => hin x ((h x).2 hx))]
  exact sumB_congr fun i _ => by simp [h]
theorem total_sub {P l l' : List Int} {n : Nat} (hP : ∀ g ∈ P, 0 ≤ g ∧ g ≤ 1000000) (hin : ∀ x ∈ l', 0 ≤ x ∧ x < (n : Int)) (h : ∀ x, x ∈ l → x ∈ l') : total P l ≤ total P l' := by
  rw [total_sumB hin, total_sumB (fun x hx => hin x (h x hx))]
  exact sumB_mono hP fun i _ hi => by simpa using h _ (by simpa using hi)
theorem total_or {P l l1 l2 : List Int} {n : Nat} (hP : ∀ g ∈ P, 0 ≤ g ∧ g ≤ 1000000) (h1 : ∀ x ∈ l1, 0 ≤ x ∧ x < (n : Int)) (h2 : ∀ x ∈ l2, 0 ≤ x ∧ x < (n : Int)) (h : ∀ x, x ∈ l ↔ x ∈ l1 ∨ x ∈ l2) : total P l ≤ total P l1 + total P l2 := by
  rw [total_sumB h1, total_sumB h2, total_sumB (l := l) (fun x hx => ((h x).1 hx).elim (h1 x) (h2 x))]
  rw [sumB_congr (q := fun i => decide ((i : Int) ∈ l1) || decide ((i : Int) ∈ l2)) (fun i _ => by simp [h])]
  exact sumB_or hP
theorem lost_mem {W H : Int} {G : List Int} {a : St} {r : Int} {l : List St} {x : Int} : x ∈ lost W H G a r l ↔ ∃ i : Nat, x = i ∧ i < (W * H).toNat ∧ cov W G a (cx W i) (cy W i) = true ∧ ∃ b ∈ l, field W G a (cx W i) (cy W i) - field W G b (cx W i) (cy W i) < r := by
  unfold lost dist
  constructor
  · intro h
    obtain ⟨i, hi, rfl⟩ := List.mem_map.1 h
    obtain ⟨h1, h2⟩ := List.mem_filter.1 hi
    rw [Bool.and_eq_true, List.any_eq_true] at h2
    obtain ⟨b, hb, hd⟩ := h2.2
    exact ⟨i, rfl, List.mem_range.1 h1, h2.1, b, hb, by simpa using hd⟩
  · rintro ⟨i, rfl, h1, h2, b, hb, hd⟩
    refine List.mem_map.2 ⟨i, List.mem_filter.2 ⟨List.mem_range.2 h1, ?_⟩, rfl⟩
    rw [Bool.and_eq_true, List.any_eq_true]
    exact ⟨h2, b, hb, by simpa using hd⟩
theorem lost_mem1 {W H : Int} {G : List Int} {a : St} {r : Int} {l : List St} {x : Int} : x ∈ lost W H G a r l ↔ ∃ b ∈ l, x ∈ lost W H G a r [b] := by
  constructor
  · intro h
    obtain ⟨i, e, h1, h2, b, hb, hd⟩ := lost_mem.1 h
    exact ⟨b, hb, lost_mem.2 ⟨i, e, h1, h2, b, by simp, hd⟩⟩
  · rintro ⟨b, hb, h⟩
    obtain ⟨i, e, h1, h2, b', hb', hd⟩ := lost_mem.1 h
    rw [List.mem_singleton] at hb'
    subst hb'
    exact lost_mem.2 ⟨i, e, h1, h2, b', hb, hd⟩
theorem lost_inN {W H : Int} {G : List Int} {a : St} {r : Int} {l : List St} : ∀ x ∈ lost W H G a r l, 0 ≤ x ∧ x < ((W * H).toNat : Int) := fun x hx => by have := lost_in x hx; omega
/-- The document's list of lost cells: those of each station in turn. -/
def lostAll (W H : Int) (G : List Int) (a : St) (l : List St) : List Int := l.flatMap fun b => lost W H G a 30 [b]
theorem lostAll_in {W H : Int} {G : List Int} {a : St} {l : List St} : ∀ x ∈ lostAll W H G a l, 0 ≤ x ∧ x < W * H := by
  intro x hx
  obtain ⟨b, _, h⟩ := List.mem_flatMap.1 hx
  exact lost_in x h
theorem lostAll_total (W H : Int) (G P : List Int) (a : St) (l : List St) : total P (lostAll W H G a l) = total P (lost W H G a 30 l) :=
  (total_same (n := (W * H).toNat) lost_inN (fun x => by unfold lostAll; rw [lost_mem1, List.mem_flatMap])).symm
theorem lost_rev (W H : Int) (G P : List Int) (a : St) (l : List St) : total P (lost W H G a 30 l.reverse) = total P (lost W H G a 30 l) :=
  total_same (n := (W * H).toNat) lost_inN (fun x => by rw [lost_mem1, lost_mem1 (l := l)]; simp)
theorem lost_one_le {W H : Int} {G P : List Int} {a : St} {l : List St} {b : St} (hP : ∀ g ∈ P, 0 ≤ g ∧ g ≤ 1000000) (hb : b ∈ l) : total P (lost W H G a 30 [b]) ≤ total P (lost W H G a 30 l) :=
  total_sub hP lost_inN (fun _ hx => lost_mem1.2 ⟨b, hb, hx⟩)
/-- The sum of the losses by each station. -/
def sumOne (W H : Int) (G P : List Int) (a : St) (l : List St) : Int := (l.map fun b => total P (lost W H G a 30 [b])).sum
theorem lost_nil (W H : Int) (G : List Int) (a : St) : lost W H G a 30 [] = [] := by
  apply List.eq_nil_iff_forall_not_mem.2
  intro x hx
  obtain ⟨b, hb, _⟩ := lost_mem1.1 hx
  cases hb
theorem lost_le_sum {W H : Int} {G P : List Int} {a : St} (hP : ∀ g ∈ P, 0 ≤ g ∧ g ≤ 1000000) : ∀ l : List St, total P (lost W H G a 30 l) ≤ sumOne W H G P a l
  | [] => by rw [lost_nil]; simp [sumOne, total, totTo]
  | b :: l => by
    have ih := lost_le_sum (W := W) (H := H) (G := G) (a := a) hP l
    have := total_or (n := (W * H).toNat) (l := lost W H G a 30 (b :: l)) (l1 := lost W H G a 30 [b]) (l2 := lost W H G a 30 l) hP lost_inN lost_inN (fun x => by rw [lost_mem1, lost_mem1 (l := l)]; simp)
    have e : sumOne W H G P a (b :: l) = total P (lost W H G a 30 [b]) + sumOne W H G P a l := by simp [sumOne]
    omega
theorem sumOne_rev (W H : Int) (G P : List Int) (a : St) (l : List St) : sumOne W H G P a l.reverse = sumOne W H G P a l := by
  unfold sumOne
  rw [List.map_reverse, List.sum_reverse]
theorem totl_bd {P l : List Int} (hP : ∀ g ∈ P, 0 ≤ g ∧ g ≤ 1000000) (hl : l.length ≤ 100000) : 0 ≤ total P l ∧ total P l ≤ 100000000000 := by
  have := totTo_bd (l := l) hP l.length
  unfold total
  omega
end M
end Go.Proofs.YtihepapjopcagaaGreatDoor
end

/- Layer 14: Reach. -/
section
namespace Go.Proofs.YtihepapjopcagaaGreatDoor
open Go Go.RowKit
set_option maxRecDepth 100000

/-- The cells of the areas, one area behind the other. -/
def M.reachL (W H : Int) (G : List Int) (l : List St) : List Int := l.flatMap fun s => M.area W H G s

theorem M.cellsTo_in {W : Int} {G : List Int} {cs : List CE} {n : Nat} : ∀ x ∈ M.cellsTo W G cs n, 0 ≤ x ∧ x < (n : Int) := by
  intro x hx
  unfold M.cellsTo at hx
  obtain ⟨i, hi, rfl⟩ := List.mem_map.1 hx
  have := List.mem_range.1 (List.mem_filter.1 hi).1
  omega
theorem M.cellsTo_area (W H : Int) (G : List Int) (bt bs : Nat) (s : St) (A : Option Addr) (c : Nat) : M.cellsTo W G [⟨bt, bs, s, A, c⟩] (W * H).toNat = M.area W H G s := by
  unfold M.cellsTo M.area M.areaTo M.allC
  simp

theorem held13 {w' : World} {b0 b1 : Nat} {W H : Int} {GA PA : Option Addr} {gc pc : Nat} {G P : List Int} {v : Value} {t : TypeId} (h0 : Box w' b0 #[.int .i64 W, .int .i64 H, .slice GA G.length gc, .slice PA P.length pc] 30) (h1 : Box w' b1 #[v] t) :
    w'.cell? ⟨b0, 0, none⟩ = some (.int .i64 W) ∧ w'.cell? ⟨b0, 1, none⟩ = some (.int .i64 H) ∧ w'.cell? ⟨b0, 2, none⟩ = some (.slice GA G.length gc) ∧ w'.cell? ⟨b0, 3, none⟩ = some (.slice PA P.length pc) ∧ w'.cell? ⟨b1, 0, none⟩ = some v := by
  obtain ⟨c0, c1, c2, c3⟩ := h0.c4
  exact ⟨c0, c1, c2, c3, h1.c1⟩

set_option maxHeartbeats 16000000 in
theorem reach_ok (W H : Int) (GA PA : Option Addr) (gc pc : Nat) (G P : List Int) (LA : Option Addr) (lc : Nat) (es : List SE) (w : World) (ht : Tab w) (hg : Sl 1 icell w w.heap.size GA G) (hp : Sl 1 icell w w.heap.size PA P) (hL : Sl 8 secell w w.heap.size LA es) (hP : Pats w es)
    (hl : es.length ≤ 20) (htv : M.tvalid W H G P = true) (hob : ∀ e ∈ es, M.okS W H G P e.s = true) :
    Calls Tryz.prog 24 #[tv W H GA PA G.length gc P.length pc, .slice LA es.length lc] w fun e w' => e = .returned (.tuple #[.int .i64 (M.total P (M.reachL W H G (es.map (·.s)))), .int .i64 0]) ∧ Below w.heap.size w w' := by
  obtain ⟨V, HW, x0, hB, hs⟩ := boxes1 w #[.int .i64 W, .int .i64 H, .slice GA G.length gc, .slice PA P.length pc] 30
  have HS := Lib.hid hs
  obtain ⟨r1, r2, r3, r4, r5, r6⟩ := M.tvalid_iff.1 htv
  obtain ⟨wh1, wh2⟩ := M.wh_le r1 r2
  have HC : Hid (M.chk W H G P (es.map (·.s)) = 0) := Lib.hid (by
    unfold M.chk
    rw [if_pos]
    rw [Bool.and_eq_true, List.all_eq_true]
    exact ⟨htv, fun s hs => by obtain ⟨e, he, rfl⟩ := List.mem_map.1 hs; exact hob e he⟩)
  have hpe : ∀ e ∈ es, e.s.pat.length ≤ 1000 := fun e he => by
    have h1 := (M.okS_iff.1 (hob e he)).1
    have h2 := (M.avalid_iff.1 (M.svalid_iff.1 h1).2.2.2.2.2.2).2.1
    omega
  have HPE := Lib.hid hpe
  have HOB := Lib.hid hob
  have HTV := Lib.hid htv
  have HR6 := Lib.hid r6
  have HR4 := Lib.hid r4
  have hgl : G.length ≤ 5000 := by omega
  have hpl : P.length ≤ 5000 := by omega
  clear hob htv r5 r6 hpe hs r3 r4
  obtain ⟨c0, c1, c2, c3⟩ := x0.c4
  have hV := HW.out
  obtain ⟨rr, HRR⟩ : ∃ rr, Hid (M.total P (M.reachL W H G (es.map (·.s))) = rr) := ⟨_, Lib.hid rfl⟩
  rw [HRR.out]
  refine calls_marks Tryz.func24 rfl ?_
  simp only [Tryz.ntmps24, List.size_toArray, List.length_cons, List.length_nil, Nat.reduceAdd, Nat.reduceSub, Array.replicate_succ, Array.replicate_zero, List.push_toArray, List.append_toArray, List.nil_append, List.cons_append]
  go_wp2_with fail
  clear hV c0 c1 c2 c3
  refine (check_any W H GA PA gc pc G P LA lc es V ((hg.below hB).more hB.size) ((hp.below hB).more hB.size) ((hL.below hB).more hB.size) (hP.below hB) (by omega) (by omega) (by omega) HPE.out).mono ?_
  rintro e w1 ⟨rfl, hb1⟩
  rw [HC.out]
  have B1 := after_ hB hb1
  have hmm := @run_makeMap Tryz.prog
  obtain ⟨U, HU⟩ : ∃ U, Hid ((w1.alloc (.map #[] 0)).alloc (.cells #[.map (some w1.heap.size)] 87) = U) := ⟨_, Lib.hid rfl⟩
  have hU := HU.out
  go_wp2_with fail
  clear hU hmm
  have hbU : Below w1.heap.size w1 U := by rw [← HU.out]; exact ((Below.refl _ _).alloc (Nat.le_refl _) _).alloc (by simp) _
  have BU := after_ B1 hbU
  have hownU : U.ownsMap Tryz.prog 3 (plainElem (H := Unit) Tryz.prog 3) w1.heap.size 0 (.map []) := by rw [← HU.out]; exact (World.ownsMap_made _ _ _ _).alloc _
  have xmU : Box U (w1.heap.size + 1) #[.map (some w1.heap.size)] 87 := by
    rw [← HU.out]
    have := Box.new (w1.alloc (.map #[] 0)) #[.map (some w1.heap.size)] 87
    rwa [show (w1.alloc (.map #[] 0)).heap.size = w1.heap.size + 1 by simp] at this
  have xtU := (x0.below hb1).below hbU
  have hw1 : w.heap.size < w1.heap.size := by have := HS.out; have := hb1.size; omega
  refine wp_loop_marks [20, 9, 21, 22, 23, 24, 25, 26, 27, 28, 29, 35] (fun m us ds W0 => ∃ (k n : Nat) (D : DataW Unit) (j9 j21 j22 j23 j24 j25 j26 j27 j28 j29 j35 : Value), us = [.int .i64 k, j9, j21, j22, j23, j24, j25, j26, j27, j28, j29, j35] ∧ m = es.length - k ∧ k ≤ es.length ∧ n ≤ 4096 * k ∧ Below w.heap.size w W0 ∧ Box W0 w.heap.size #[.int .i64 W, .int .i64 H, .slice GA G.length gc, .slice PA P.length pc] 30 ∧ Box W0 (w1.heap.size + 1) #[.map (some w1.heap.size)] 87 ∧ W0.ownsMap Tryz.prog 3 (plainElem (H := Unit) Tryz.prog 3) w1.heap.size n D ∧ Hid (KeysAre D (M.reachL W H G ((es.take k).map (·.s)))) ∧ Marks w.heap.size W0.heap.size ds W0) es.length ⟨0, 0, .map [], _, _, _, _, _, _, _, _, _, _, _, rfl, rfl, Nat.zero_le _, by omega, BU, xtU, xmU, hownU, Lib.hid (by simpa [M.reachL] using KeysAre.none_), Marks.none_⟩ ?_
  clear hownU xmU xtU
  rintro m us ds W0 ⟨k, n, D, j9, j21, j22, j23, j24, j25, j26, j27, j28, j29, j35, rfl, rfl, hk, hn, hB0, xt, xm, hown, HK, hM⟩
  simp only [over, List.zip_cons_cons, List.zip_nil_left, List.foldl_cons, List.foldl_nil, List.setIfInBounds_toArray, List.set_cons_succ, List.set_cons_zero]
  by_cases hlt : k < es.length
  · obtain ⟨la, hla, hlb, a0, a1, a2, a3, a4, a5, a6, a7⟩ := ((hL.below hB0).more hB0.size).st8 hlt
    have hSk := hP.at_ hlt
    have HKO := Lib.hid (HOB.out es[k] (List.getElem_mem hlt))
    have HTK : Hid (M.reachL W H G ((es.take (k + 1)).map (·.s)) = M.reachL W H G ((es.take k).map (·.s)) ++ M.area W H G es[k].s) := Lib.hid (by
      unfold M.reachL
      rw [List.take_succ_eq_append_getElem hlt, List.map_append, List.flatMap_append]
      simp)
    generalize es[k] = ek at *
    obtain ⟨s, A', c'⟩ := ek
    simp only at a0 a1 a2 a3 a4 a5 a6 a7 hSk HKO HTK
    subst hla
    obtain ⟨X, HX, u0, hbX, hsX⟩ := boxes1 W0 (stc s A' c') 34
    have HSX := Lib.hid hsX
    clear hsX
    have hX := HX.out
    go_wp2_with fail
    clear hX a0 a1 a2 a3 a4 a5 a6 a7
    have y0 : Box X.drew w.heap.size #[.int .i64 W, .int .i64 H, .slice GA G.length gc, .slice PA P.length pc] 30 := xt.below hbX.drew
    have y1 : Box X.drew W0.heap.size (stc s A' c') 34 := u0
    have hsD : X.drew.heap.size = W0.heap.size + 1 := HSX.out
    have HSD := Lib.hid hsD
    clear hsD
    have K0 := held12 y0 y1
    have BD : Below W0.heap.size W0 X.drew := hbX.drew
    have kA : ∀ wa, Below X.drew.heap.size X.drew wa → _ := fun wa hba => held12 (y0.below hba) (y1.below hba)
    have kB : ∀ wa o, Below X.drew.heap.size X.drew wa → _ := fun wa o hba => held12 ((y0.below hba).below ((Below.refl wa.heap.size wa).alloc (Nat.le_refl _) o)) ((y1.below hba).below ((Below.refl wa.heap.size wa).alloc (Nat.le_refl _) o))
    go_region_held3 (fun w' => w'.cell? ⟨w.heap.size, 0, none⟩ = some (.int .i64 W) ∧ w'.cell? ⟨w.heap.size, 1, none⟩ = some (.int .i64 H) ∧ w'.cell? ⟨w.heap.size, 2, none⟩ = some (.slice GA G.length gc) ∧ w'.cell? ⟨w.heap.size, 3, none⟩ = some (.slice PA P.length pc) ∧ w'.cell? ⟨W0.heap.size, 0, none⟩ = some (.int .i64 s.id) ∧ w'.cell? ⟨W0.heap.size, 1, none⟩ = some (.int .i64 s.x) ∧ w'.cell? ⟨W0.heap.size, 2, none⟩ = some (.int .i64 s.y) ∧ w'.cell? ⟨W0.heap.size, 3, none⟩ = some (.int .i64 s.pw) ∧ w'.cell? ⟨W0.heap.size, 4, none⟩ = some (.int .i64 s.h) ∧ w'.cell? ⟨W0.heap.size, 5, none⟩ = some (.slice A' s.pat.length c') ∧ w'.cell? ⟨W0.heap.size, 6, none⟩ = some (.int .i64 s.band) ∧ w'.cell? ⟨W0.heap.size, 7, none⟩ = some (.int .i64 s.ch)) (first | exact K0 | exact kA _ (by assumption) | exact kB _ _ (by assumption))
      (first
        | (go_at_call 40; ((with_reducible refine (coveredBy_ok W H GA PA gc pc G P s A' c' _).mono ?_); rintro e wa ⟨rfl, hba, hsa, za, zb⟩; dsimp only [fv]))
        | (go_at_call 39; ((with_reducible refine (cells_ok W H GA PA gc pc G.length P.length _ 1 1 _).mono ?_); rintro e wc ⟨rfl, hbc, hsc, zc, zd⟩; have hbC := after_ (hba.alloc hba.size _) hbc; dsimp only [cvv])))
    all_goals
      clear K0 kA kB
      have hsa2 : wa.heap.size = X.heap.size + 2 := hsa
      have zcl : Box wc wa.heap.size #[fv X.heap.size (X.heap.size + 1)] 79 := (Box.new wa #[fv X.heap.size (X.heap.size + 1)] 79).below hbc
      have za2 : Box wc X.heap.size #[.int .i64 W, .int .i64 H, .slice GA G.length gc, .slice PA P.length pc] 30 := (za.alloc _).below hbc
      have zb2 : Box wc (X.heap.size + 1) (stc s A' c') 34 := (zb.alloc _).below hbc
      simp only [World.size_alloc, hsa2] at zc zd zcl ⊢
      have BWc := after_ BD hbC
      have Bc := after_ hB0 BWc
      have xtc := xt.below BWc
      have xmc := xm.below BWc
      have hownc := hown.kept (below_grown BWc) (by simp)
      have hMc := (hM.below BWc).more BWc.size
      have hltc := hownc.lt
      clear hsa hsa2 hbc hsc za zb y0 y1 hba
      go_wp2_with fail
      refine wp_range (gf := 58) rfl (enters_of Tryz.func58 (by kernel_rfl) rfl) (cellsL_seq (W := W) (H := H) (GA := GA) (PA := PA) (gc := gc) (pc := pc) (G := G) (P := P) [⟨X.heap.size, X.heap.size + 1, s, A', c'⟩] (X.heap.size + 2 + 1) (X.heap.size + 2 + 1 + 1) (some ⟨X.heap.size + 2, 0, none⟩) 1 (by simp) HTV.out (by simpa using HKO.out)) (fun _ => rfl)
        (fun pre W' => ∃ (n' : Nat) (D' : DataW Unit), n' ≤ n + pre.length ∧ W'.ownsMap Tryz.prog 3 (plainElem (H := Unit) Tryz.prog 3) w1.heap.size n' D' ∧ Hid (KeysAre D' (M.reachL W H G ((es.take k).map (·.s)) ++ pre)) ∧ Below w.heap.size w W' ∧ Box W' w.heap.size #[.int .i64 W, .int .i64 H, .slice GA G.length gc, .slice PA P.length pc] 30 ∧ Box W' (w1.heap.size + 1) #[.map (some w1.heap.size)] 87 ∧ Box W' X.heap.size #[.int .i64 W, .int .i64 H, .slice GA G.length gc, .slice PA P.length pc] 30 ∧ Box W' (X.heap.size + 1) (stc s A' c') 34 ∧ Box W' (X.heap.size + 2) #[fv X.heap.size (X.heap.size + 1)] 79 ∧ Box W' (X.heap.size + 2 + 1) #[.int .i64 W, .int .i64 H, .slice GA G.length gc, .slice PA P.length pc] 30 ∧ Box W' (X.heap.size + 2 + 1 + 1) #[.slice (some ⟨X.heap.size + 2, 0, none⟩) 1 1] 95 ∧ Marks w.heap.size wc.heap.size ds W')
        (fun _ _ _ => False) ?hI (fun _ _ _ _ _ h => h.elim) ?hK ⟨n, D, by simp, hownc, Lib.hid (by rw [List.append_nil]; exact HK.out), Bc, xtc, xmc, za2, zb2, zcl, zc, zd, hMc⟩ ?round ?done (fun _ _ _ h => h.elim)
      case hI =>
        exact fun pre W' W'' row ⟨n', D', g1, g2, g3, g4, g5, g6, g7, g8, g9, g10, g11, g12⟩ hg' hr => ⟨n', D', g1, g2.kept hg' (fun e => by have := (hr _ e.symm).1; omega), g3, below_own g4 Bc.size g4.size hg' hr, g5.own hg' hr, g6.own hg' hr, g7.own hg' hr, g8.own hg' hr, g9.own hg' hr, g10.own hg' hr, g11.own hg' hr, g12.own (Nat.le_refl _) hg' hr⟩
      case hK =>
        refine fun pre W' ⟨n', D', g1, g2, g3, g4, g5, g6, g7, g8, g9, g10, g11, g12⟩ => ⟨fun e he => ?_, g10, g11, Sl.of_box g9 rfl⟩
        obtain rfl := List.mem_singleton.1 he
        exact ⟨g7, g8, (hg.below g4).more g4.size, (hp.below g4).more g4.size, (hSk.below g4).more g4.size, ht.kept g4⟩
      case round =>
        intro r' pre x post W' hLL hl' hd' hi'
        gi_wp2
        refine ⟨hl', hd', hi', fun _ => True, fun _ _ _ _ _ _ _ => trivial, trivial, ?_⟩
        clear hl' hd' hi'
        rintro r'' W2 hl' hd' ⟨n', D', g1, g2, g3, g4, g5, g6, g7, g8, g9, g10, g11, g12⟩ -
        have hxm : x ∈ M.cellsTo W G [⟨X.heap.size, X.heap.size + 1, s, A', c'⟩] (W * H).toNat := by rw [hLL]; simp
        have hlen := M.cellsTo_len W G [⟨X.heap.size, X.heap.size + 1, s, A', c'⟩] (W * H).toNat
        rw [hLL] at hlen
        simp only [List.length_append, List.length_cons] at hlen
        have hx := M.cellsTo_in x hxm
        have hwf : (Lit.int .i64 x).wf = true := by simp [Lit.wf, IntKind.min, IntKind.max, IntKind.signed, IntKind.bits]; omega
        have hkey := Maps.keyOf_int_mk (P := Tryz.prog) Tryz.underlying3 hwf
        have cm := g6.c1
        clear hLL hxm
        gi_wp2_with (first
          | (gi_at_lookup; refine wpListIn_lookup_own_int _ rfl _ _ 87 rfl 3 3 .i64 (Maps.int_keyed Tryz.underlying3) Tryz.underlying87 Tryz.underlying3 (Tryz.zeroValue3 _) w1.heap.size n' _ rfl g2 _ _ rfl hkey ?_; intro c hat hwc)
          | (gi_at_mapUpdate; refine wpListIn_mapUpdate_own _ rfl _ _ _ 87 rfl 3 3 (Maps.int_keyed Tryz.underlying3) Tryz.underlying87 _ w1.heap.size n' _ rfl g2 (by unfold maxLen; omega) _ _ _ rfl rfl hkey _ [] (plainElem_int Tryz.underlying3 (wrap64_wf _)) ?_; intro w6 hown6 hg6))
        have g2' := g2
        obtain ⟨esm, ck, hh, -⟩ := g2'
        have hr0 : ∀ r, some w1.heap.size = some r → 0 ≤ r ∧ ∃ o : Obj, W2.heap[r]? = some o ∧ o.isCells = false := fun r e => by cases e; exact ⟨Nat.zero_le _, _, hh, rfl⟩
        exact ⟨hl'.grown hg6 (fun e => by have := Option.some.inj e; omega), hd'.grown hg6 (fun e => by have := Option.some.inj e; omega), n' + 1, _, by simp only [List.length_append, List.length_cons, List.length_nil]; omega, hown6, Lib.hid (by rw [← List.append_assoc]; exact g3.out.put x _), g4.grown hg6 g4.size (fun k e => by have := Option.some.inj e; omega), g5.own hg6 hr0, g6.own hg6 hr0, g7.own hg6 hr0, g8.own hg6 hr0, g9.own hg6 hr0, g10.own hg6 hr0, g11.own hg6 hr0, g12.map hh (by simp) hg6⟩
      case done =>
        rintro W' ⟨n', D', g1, g2, g3, g4, g5, g6, g7, g8, g9, g10, g11, g12⟩ hD
        have hlen := M.cellsTo_len W G [⟨X.heap.size, X.heap.size + 1, s, A', c'⟩] (W * H).toNat
        have HKK : Hid (KeysAre D' (M.reachL W H G ((es.take (k + 1)).map (·.s)))) := Lib.hid (by rw [HTK.out, ← M.cellsTo_area W H G X.heap.size (X.heap.size + 1) s A' c']; exact g3.out)
        have hn' : n' ≤ 4096 * (k + 1) := by omega
        have hM2 := (g12.cons Bc.size (Nat.le_refl _) hD).more hD.lt
        clear hlen
        go_wp2_with fail
        exact ⟨rfl, es.length - (k + 1), by omega, k + 1, n', D', _, _, _, _, _, _, _, _, _, _, _, rfl, rfl, hlt, hn', g4, g5, g6, g2, HKK, hM2⟩
  · obtain rfl : k = es.length := by omega
    have HK2 : Hid (KeysAre D (M.reachL W H G (es.map (·.s)))) := Lib.hid (by have := HK.out; rwa [List.take_length] at this)
    clear HK
    have y0 : Box W0.drew w.heap.size #[.int .i64 W, .int .i64 H, .slice GA G.length gc, .slice PA P.length pc] 30 := xt
    have y1 : Box W0.drew (w1.heap.size + 1) #[.map (some w1.heap.size)] 87 := xm
    have hownd : W0.drew.ownsMap Tryz.prog 3 (plainElem (H := Unit) Tryz.prog 3) w1.heap.size n D := hown
    have BDr : Below W0.heap.size W0 W0.drew := (Below.refl _ _).drew
    have HIN : Hid (∀ x ∈ M.reachL W H G (es.map (·.s)), 0 ≤ x ∧ x < W * H) := Lib.hid (fun x hx => by
      obtain ⟨s, _, h⟩ := List.mem_flatMap.1 hx
      exact M.area_in x h)
    have K0 := held13 y0 y1
    have kA : ∀ wa, Below W0.drew.heap.size W0.drew wa → _ := fun wa hba => held13 (y0.below hba) (y1.below hba)
    have kB : ∀ wa o, Below W0.drew.heap.size W0.drew wa → _ := fun wa o hba => held13 ((y0.below hba).below ((Below.refl wa.heap.size wa).alloc (Nat.le_refl _) o)) ((y1.below hba).below ((Below.refl wa.heap.size wa).alloc (Nat.le_refl _) o))
    go_wp2_with fail
    go_region_held3 (fun w' => w'.cell? ⟨w.heap.size, 0, none⟩ = some (.int .i64 W) ∧ w'.cell? ⟨w.heap.size, 1, none⟩ = some (.int .i64 H) ∧ w'.cell? ⟨w.heap.size, 2, none⟩ = some (.slice GA G.length gc) ∧ w'.cell? ⟨w.heap.size, 3, none⟩ = some (.slice PA P.length pc) ∧ w'.cell? ⟨w1.heap.size + 1, 0, none⟩ = some (.map (some w1.heap.size))) (first | exact K0 | exact kA _ (by assumption) | exact kB _ _ (by assumption))
      (first
        | (go_at_call 48; ((with_reducible refine (keysI_ok2 _ _).mono ?_); rintro e wa ⟨rfl, hba, hcell⟩; have howna := hownd.kept (below_grown hba) (by simp)))
        | (go_at_call 47; ((refine (sortedK_ok w1.heap.size n D _ (M.reachL W H G (es.map (·.s))) _ howna _ hcell HK2.out (by omega)).mono ?_); rintro e wb ⟨A9, c9, ss, rfl, hS9, hmem, hlen9, hb9⟩; have hbB := after_ hba hb9))
        | (go_at_call 41; ((with_reducible refine (tTotal_ok W H GA PA gc pc G P A9 c9 ss _ ((hg.below (after_ hB0 (after_ BDr hbB))).more (after_ hB0 (after_ BDr hbB)).size) ((hp.below (after_ hB0 (after_ BDr hbB))).more (after_ hB0 (after_ BDr hbB)).size) hS9 HTV.out (by omega) (fun x hx => HIN.out x ((hmem x).1 hx))).mono ?_); rintro e wd ⟨rfl, hbd⟩; have hbD := after_ hbB hbd)))
    all_goals
      have HT : Hid (M.total P ss = rr) := Lib.hid ((M.total_same (n := (W * H).toNat) (fun x hx => by have := HIN.out x ((hmem x).1 hx); omega) hmem).trans HRR.out)
      have Bd := after_ hB0 (after_ BDr hbD)
      have hMd := (hM.below BDr).below hbD
      rw [HT.out]
      go_wp2_with fail
      exact leaves_marks (B := w.heap.size) _ _ hMd (fun W' hs => ⟨.tuple #[.int .i64 rr, .int .i64 0], by simp [results, Tryz.results24, go_sem], rfl, Bd.trans hs.below⟩)
end Go.Proofs.YtihepapjopcagaaGreatDoor
end
