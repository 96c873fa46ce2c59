/- The plain laws behind InterfereHolds. -/
import Derived.Test.YtohkbblfcjmmnaaGreatDoorRef15b
namespace Go.Proofs.YtohkbblfcjmmnaaGreatDoor
namespace M
theorem filter_one {b : List Int} (hb : b.Nodup) {x : Int} (hx : x ∈ b) : (b.filter fun y => decide (y = x)) = [x] := by
  induction b with
  | nil => cases hx
  | cons y b ih =>
    rw [List.nodup_cons] at hb
    by_cases h : y = x
    · subst h
      have : (b.filter fun z => decide (z = y)) = [] := by
        rw [List.filter_eq_nil_iff]
        intro z hz hd
        rw [decide_eq_true_eq] at hd
        subst hd
        exact hb.1 hz
      simp [this]
    · have hx2 : x ∈ b := by
        rcases List.mem_cons.1 hx with e | e
        · exact absurd e.symm h
        · exact e
      rw [List.filter_cons]
      simp only [h, decide_false, Bool.false_eq_true, if_false]
      exact ih hb.2 hx2
theorem both_sub {a b : List Int} (hb : b.Nodup) (h : ∀ x ∈ a, x ∈ b) : both a b = a := by
  unfold both
  induction a with
  | nil => rfl
  | cons x a ih =>
    rw [List.flatMap_cons, filter_one hb (h x (by simp)), ih (fun y hy => h y (by simp [hy]))]
    rfl
theorem cast_nodup (p : Nat → Bool) (n : Nat) : (((List.range n).filter p).map fun (i : Nat) => (i : Int)).Nodup := by
  refine List.pairwise_map.2 ?_
  refine List.Pairwise.imp ?_ (List.Pairwise.filter p List.nodup_range)
  intro a b h e
  exact h (by omega)
theorem cast_sub {p q : Nat → Bool} (n : Nat) (h : ∀ i, p i = true → q i = true) : ∀ x ∈ ((List.range n).filter p).map (fun (i : Nat) => (i : Int)), x ∈ ((List.range n).filter q).map (fun (i : Nat) => (i : Int)) := by
  intro x hx
  obtain ⟨i, hi, rfl⟩ := List.mem_map.1 hx
  obtain ⟨h1, h2⟩ := List.mem_filter.1 hi
  exact List.mem_map.2 ⟨i, List.mem_filter.2 ⟨h1, h i h2⟩, rfl⟩
theorem lost_both_area (W H : Int) (G : List Int) (a : St) (r : Int) (l : List St) : both (lost W H G a r l) (area W H G a) = lost W H G a r l :=
  both_sub (cast_nodup _ _) (cast_sub _ (fun i h => by rw [Bool.and_eq_true] at h; exact h.1))
theorem dist_mono {W : Int} {G : List Int} {a b : St} {r r' cx cy : Int} (hr : r ≤ r') (h : dist W G a r cx cy [b] = true) : dist W G a r' cx cy [b] = true := by
  rw [dist1, decide_eq_true_eq] at *
  omega
theorem lost_both_ratio (W H : Int) (G : List Int) (a b : St) {r r' : Int} (hr : r ≤ r') : both (lost W H G a r [b]) (lost W H G a r' [b]) = lost W H G a r [b] :=
  both_sub (cast_nodup _ _) (cast_sub _ (fun i h => by rw [Bool.and_eq_true] at h ⊢; exact ⟨h.1, dist_mono hr h.2⟩))
/-- The other station with more power. -/
def strg (b : St) (more : Int) : St := ⟨b.id, b.x, b.y, b.pw + more, b.h, b.pat, b.band, b.ch⟩
theorem strg_field (W : Int) (G : List Int) (b : St) (more cx cy : Int) : field W G (strg b more) cx cy = field W G b cx cy + more := by
  unfold field strg
  dsimp only
  omega
theorem lost_both_strong (W H : Int) (G : List Int) (a b : St) (r : Int) {more : Int} (hm : 0 ≤ more) : both (lost W H G a r [b]) (lost W H G a r [strg b more]) = lost W H G a r [b] :=
  both_sub (cast_nodup _ _) (cast_sub _ (fun i h => by
    rw [Bool.and_eq_true] at h ⊢
    refine ⟨h.1, ?_⟩
    have h2 := h.2
    rw [dist1, decide_eq_true_eq] at h2 ⊢
    rw [strg_field]
    omega))
theorem strg_ok {W H : Int} {G P : List Int} {b : St} {more : Int} (h : okS W H G P b = true) (h0 : 0 ≤ more) (h1 : b.pw + more ≤ 300) : okS W H G P (strg b more) = true := by
  obtain ⟨hs, ht, hx, hy⟩ := okS_iff.1 h
  refine okS_iff.2 ⟨?_, ht, hx, hy⟩
  obtain ⟨a, b', c, d, e, f, g⟩ := svalid_iff.1 hs
  exact svalid_iff.2 ⟨a, b', c, by unfold strg; dsimp only; omega, e, f, g⟩
def pv (P : List Int) (x : Int) : Int := P.getD x.toNat 0
theorem totTo_sum {P l : List Int} (hn : l.Nodup) : ∀ k, k ≤ l.length → totTo P l k = ((l.take k).map (pv P)).sum
  | 0, _ => rfl
  | k + 1, hk => by
    have hkl : k < l.length := by omega
    rw [totTo_succ hkl, totTo_sum hn k (by omega), List.take_succ_eq_append_getElem hkl, List.map_append, List.sum_append]
    have hni : ¬ l[k] ∈ l.take k := by
      intro hm
      obtain ⟨j, hj, e⟩ := List.getElem_of_mem hm
      rw [List.getElem_take] at e
      have hjk : j < k := by simp at hj; omega
      exact List.pairwise_iff_getElem.1 hn j k (by omega) hkl hjk e
    rw [if_neg hni]
    simp [pv]
theorem total_sum {P l : List Int} (hn : l.Nodup) : total P l = (l.map (pv P)).sum := by
  unfold total
  rw [totTo_sum hn _ (Nat.le_refl _), List.take_length]
theorem sum_sub {f : Int → Int} (hf : ∀ x, 0 ≤ f x) {a b : List Int} (h : a.Sublist b) : (a.map f).sum ≤ (b.map f).sum := by
  induction h with
  | slnil => simp
  | cons x _ ih => have := hf x; simp; omega
  | cons_cons x _ ih => simp; omega
theorem pv_nonneg {P : List Int} (hP : ∀ g ∈ P, 0 ≤ g ∧ g ≤ 1000000) (x : Int) : 0 ≤ pv P x := by
  unfold pv
  by_cases hj : x.toNat < P.length
  · have := hP P[x.toNat] (List.getElem_mem hj)
    simp [hj]; omega
  · simp [Nat.le_of_not_lt hj]
theorem lost_total_le {W H : Int} {G P : List Int} {a : St} {r : Int} {l : List St} (hP : ∀ g ∈ P, 0 ≤ g ∧ g ≤ 1000000) : total P (lost W H G a r l) ≤ total P (area W H G a) := by
  rw [total_sum (l := lost W H G a r l) (cast_nodup _ _), total_sum (l := area W H G a) (cast_nodup _ _)]
  refine sum_sub (pv_nonneg hP) ?_
  rw [← lost_area]
  exact List.filter_sublist
end M
end Go.Proofs.YtohkbblfcjmmnaaGreatDoor
