/- A bundle of texts: Re4, GeT. -/
import Derived.Test.YtjoomgojnpcbeaaDoorJ12
import Derived.Test.YtjoomgojnpcbeaaDoorJ17
import Derived.Test.YtjoomgojnpcbeaaDoorJ02
section
namespace Go.Proofs.YtjoomgojnpcbeaaDoor
open Go Go.RowKit Gh
set_option maxRecDepth 100000
namespace Ge
end Ge
structure CmS (w W : World) (vO vS : Value) (ls : List SLc) (seen : List Nat) : Prop where
 bel : Below w.heap.size w W
 lo : LO W w.heap.size vO ls
 os : W.ownsRow w.heap.size 3 1 vS seen.length (flat 1 icell (bsl seen))
 ap : ∀ s ∈ ls, ∀ q, (Value.slice s.A s.xs.length s.c).ownBlock = some q → vS.ownBlock ≠ some q
section
variable {w W W' : World} {vO vS : Value} {ls : List SLc} {seen : List Nat}
theorem CmS.next (h : CmS w W vO vS ls seen) (hb : Below W.heap.size W W') : CmS w W' vO vS ls seen := ⟨after_ h.bel hb, h.lo.below hb, own_below h.os hb, h.ap⟩
end
end Go.Proofs.YtjoomgojnpcbeaaDoor
end

section
namespace Go.Proofs.YtjoomgojnpcbeaaDoor
namespace Ge
open Bs Dg Gh
theorem ER.adj {n : Nat} {E : List Ed} {R : List Nat} (h : ER n E R) : ∀ a b, Gh.adj R a b → Gh.adj R b a := h.sy
theorem blk_count {R : List Nat} {F : List (List Nat)} (h : IsB R F) (hs : ∀ a b, Gh.adj R a b → Gh.adj R b a) {a b : Nat} (hadj : Gh.adj R a b) (hne : a ≠ b) (ha : a < R.length) (hb : b < R.length) : (F.filter fun c => decide (a ∈ c) && decide (b ∈ c)).length = 1 := by
  obtain ⟨c, hc, hz⟩ := h.cov _ (edge_ns hs hadj) ⟨a, b, .inl rfl, .inr rfl, hne⟩ (fun x hx => by rcases hx with rfl | rfl <;> assumption)
  have hm : c ∈ F.filter fun c => decide (a ∈ c) && decide (b ∈ c) := List.mem_filter.2 ⟨hc, by rw [decide_eq_true (hz a (.inl rfl)), decide_eq_true (hz b (.inr rfl))]; rfl⟩
  have hp := h.pw.sublist (List.filter_sublist (p := fun c => decide (a ∈ c) && decide (b ∈ c)))
  have hall : ∀ c' ∈ F.filter fun c => decide (a ∈ c) && decide (b ∈ c), a ∈ c' ∧ b ∈ c' := fun c' hc' => by
    have := (List.mem_filter.1 hc').2
    simpa using this
  generalize F.filter (fun c => decide (a ∈ c) && decide (b ∈ c)) = G at *
  match G, hm, hp, hall with
  | [_], _, _, _ => rfl
  | c1 :: c2 :: G', _, hp, hall =>
    exfalso
    obtain ⟨u, hu⟩ := (List.pairwise_cons.1 hp).1 c2 (by simp)
    have h1 := hall c1 (by simp)
    have h2 := hall c2 (by simp)
    exact hne ((hu a h1.1 h2.1).trans (hu b h1.2 h2.2).symm)
section
variable {E : List Ed} {n : Nat}
theorem rem_pre : ∀ (j k : Nat), ∃ t, (rem E n (k + j)).1 = (rem E n k).1 ++ t
  | 0, k => ⟨[], by simp⟩
  | j + 1, k => by
    obtain ⟨t, ht⟩ := rem_pre j k
    refine ⟨t ++ [bst E (rem E n (k + j)).2.1], ?_⟩
    show (rem E n (k + j)).1 ++ [bst E (rem E n (k + j)).2.1] = _
    rw [ht, List.append_assoc]
theorem rem_most : ∀ (j k : Nat), (rem E n k).2.2 ≤ (rem E n (k + j)).2.2
  | 0, _ => Nat.le_refl _
  | j + 1, k => Nat.le_trans (rem_most j k) (Nat.le_max_left _ _)
theorem rem_take {k : Nat} (hk : k ≤ n) : (rem E n n).1.take k = (rem E n k).1 := by
  obtain ⟨t, ht⟩ := rem_pre (E := E) (n := n) (n - k) k
  rw [show k + (n - k) = n by omega] at ht
  have hl := (rem_left (E := E) (n := n) k hk).2.2.1
  rw [ht, List.take_append_of_le_length (by omega), List.take_of_length_le (by omega)]
theorem rem_iff : ∀ k, k ≤ n → (rem E n k).1.Nodup ∧ ∀ x, x ∈ (rem E n k).2.1 ↔ x < n ∧ x ∉ (rem E n k).1
  | 0, _ => ⟨List.nodup_nil, fun x => by simp [rem]⟩
  | k + 1, hk => by
    obtain ⟨h1, h2⟩ := rem_iff k (by omega)
    obtain ⟨l1, l2, l3, l4, l5⟩ := rem_left (E := E) (n := n) k (by omega)
    have hb := bst_mem (E := E) (left := (rem E n k).2.1) (by omega)
    have hb2 := ((h2 _).1 hb).2
    refine ⟨?_, fun x => ?_⟩
    · show ((rem E n k).1 ++ [bst E (rem E n k).2.1]).Nodup
      rw [List.nodup_append]
      refine ⟨h1, List.nodup_cons.2 ⟨by simp, List.nodup_nil⟩, fun a ha b hb' e => hb2 ?_⟩
      rw [← List.mem_singleton.1 hb', ← e]; exact ha
    · show x ∈ wo (rem E n k).2.1 (bst E (rem E n k).2.1) ↔ x < n ∧ x ∉ (rem E n k).1 ++ [bst E (rem E n k).2.1]
      unfold wo
      rw [List.mem_filter, h2, List.mem_append, List.mem_singleton, not_or, and_assoc]
      simp
theorem rem_at {k : Nat} (hk : k < n) (hk2 : k < (rem E n n).1.length) : (nbr E (rem E n n).1[k] (rem E n k).2.1).length ≤ (rem E n n).2.2 ∧ (rem E n n).1[k] ∈ (rem E n k).2.1 := by
  obtain ⟨l1, -, l3, -, -⟩ := rem_left (E := E) (n := n) k (by omega)
  have hb := bst_mem (E := E) (left := (rem E n k).2.1) (by omega)
  have e : (rem E n n).1[k] = bst E (rem E n k).2.1 := by
    have h1 := rem_take (E := E) (show k + 1 ≤ n by omega)
    have h2 : (rem E n (k + 1)).1 = (rem E n k).1 ++ [bst E (rem E n k).2.1] := rfl
    have h3 : ((rem E n n).1.take (k + 1))[k]? = some (bst E (rem E n k).2.1) := by
      rw [h1, h2, List.getElem?_append_right (by omega), l3]; simp
    rw [List.getElem?_take_of_lt (by omega), List.getElem?_eq_getElem hk2] at h3
    exact Option.some.inj h3
  rw [e]
  refine ⟨?_, hb⟩
  have h4 := rem_most (E := E) (n := n) (n - (k + 1)) (k + 1)
  rw [show k + 1 + (n - (k + 1)) = n by omega] at h4
  exact Nat.le_trans (Nat.le_max_right _ _) h4
theorem rem_perm : (rem E n n).1.Nodup ∧ (rem E n n).1.length = n ∧ ∀ x, x ∈ (rem E n n).1 ↔ x < n := by
  obtain ⟨h1, h2⟩ := rem_iff (E := E) (n := n) n (Nat.le_refl _)
  obtain ⟨l1, -, l3, -, l5⟩ := rem_left (E := E) (n := n) n (Nat.le_refl _)
  refine ⟨h1, l3, fun x => ⟨l5 x, fun hx => ?_⟩⟩
  have h0 : (rem E n n).2.1 = [] := List.eq_nil_of_length_eq_zero (by omega)
  refine Classical.byContradiction fun hn => ?_
  have := (h2 x).2 ⟨hx, hn⟩
  rw [h0] at this
  cases this
def back (E : List Ed) (n : Nat) : List Nat := (rem E n n).1.reverse
theorem back_full : full n (bsl (back E n)) = true := by
  obtain ⟨-, h2, h3⟩ := rem_perm (E := E) (n := n)
  unfold full back
  rw [Bool.and_eq_true, decide_eq_true_eq, List.all_eq_true]
  refine ⟨by rw [bsl_len, List.length_reverse, h2], fun v hv => decide_eq_true ?_⟩
  unfold bsl
  exact List.mem_map.2 ⟨v, List.mem_reverse.2 ((h3 v).2 (List.mem_range.1 hv)), rfl⟩
theorem back_len : (back E n).length = n := by unfold back; rw [List.length_reverse]; exact rem_perm.2.1
theorem back_nd : (back E n).Nodup := by unfold back; exact (List.reverse_perm _).nodup_iff.2 rem_perm.1
theorem back_mem (x : Nat) : x ∈ back E n ↔ x < n := by unfold back; rw [List.mem_reverse]; exact rem_perm.2.2 x
theorem mex_below {u : Nat} : ∀ f k j, k ≤ j → j < mexF u f k → u.testBit j = true
  | 0, k, j, h1, h2 => by rw [mexF] at h2; omega
  | f + 1, k, j, h1, h2 => by
    rw [mexF] at h2
    split at h2
    · next h =>
      by_cases e : j = k
      · rw [e]; exact h
      · exact mex_below f (k + 1) j (by omega) h2
    · omega
theorem mex_not {u m : Nat} (hu : ∀ k, u.testBit k = true → k < m) : ∀ f k, m ≤ k + f → u.testBit (mexF u f k) = false
  | 0, k, h => by
    rw [mexF]
    cases hb : u.testBit k with
    | false => rfl
    | true => have := hu k hb; omega
  | f + 1, k, h => by
    rw [mexF]
    split
    · exact mex_not hu f (k + 1) (by omega)
    · next h1 => simpa using h1
theorem mex_count (f : Nat → Nat) (L : List Nat) : mexF (usedF f L) 512 0 ≤ L.length := by
  have h := nodup_le (l := List.range (mexF (usedF f L) 512 0)) (m := L.map f) List.nodup_range (fun j hj => by
    obtain ⟨w, hw, e⟩ := used_bit.1 (mex_below 512 0 j (Nat.zero_le _) (List.mem_range.1 hj))
    exact List.mem_map.2 ⟨w, hw, e⟩)
  simpa using h
theorem col_le : ∀ i, i ≤ n → ∀ x, (colE E (back E n) i).2 x ≤ (rem E n n).2.2
  | 0, _, x => by simp [colE]
  | i + 1, hi, x => by
    have ih := col_le i (by omega)
    have hl := back_len (E := E) (n := n)
    rw [colE_next (by omega)]
    unfold colS upd
    dsimp only
    split
    · rw [colE_1 _ _ _ (by omega)]
      refine Nat.le_trans (mex_count _ _) ?_
      have hk : n - 1 - i < (rem E n n).1.length := by rw [rem_perm.2.1]; omega
      have hat := rem_at (E := E) (n := n) (k := n - 1 - i) (by omega) hk
      have hv : (back E n)[i] = (rem E n n).1[n - 1 - i] := by
        unfold back
        rw [List.getElem_reverse]
        congr 1
        rw [rem_perm.2.1]
      rw [hv]
      refine Nat.le_trans (nodup_le ?_ fun y hy => ?_) hat.1
      · unfold nbr
        exact ((back_nd (E := E) (n := n)).sublist (List.take_sublist _ _)).filter _
      · obtain ⟨h1, h2⟩ := mem_nbr.1 hy
        refine mem_nbr.2 ⟨?_, h2⟩
        rw [(rem_iff _ (by omega)).2]
        refine ⟨(back_mem y).1 (List.mem_of_mem_take h1), fun hm => ?_⟩
        unfold back at h1
        rw [List.take_reverse, List.mem_reverse, rem_perm.2.1] at h1
        rw [← rem_take (by omega)] at hm
        have hm2 : y ∈ (rem E n n).1.take (n - i) := by
          have : (rem E n n).1.take (n - 1 - i) = ((rem E n n).1.take (n - i)).take (n - 1 - i) := by rw [List.take_take, Nat.min_eq_left (by omega)]
          rw [this] at hm
          exact List.mem_of_mem_take hm
        have hnd := (rem_perm (E := E) (n := n)).1
        rw [← List.take_append_drop (n - i) (rem E n n).1, List.nodup_append] at hnd
        exact hnd.2.2 y hm2 y h1 rfl
    · exact ih x
theorem col_ne (hE : ∀ v : Nat, has E v v = false) {o : List Nat} (hn : o.Nodup) (hl : o.length ≤ 511) : ∀ i, i ≤ o.length → ∀ a ∈ o.take i, ∀ b ∈ o.take i, has E a b = true → (colE E o i).2 a ≠ (colE E o i).2 b
  | 0, _, a, ha, _, _, _ => absurd ha (by simp)
  | i + 1, hi, a, ha, b, hb, hab => by
    have ih := col_ne hE hn hl i (by omega)
    have hil : i < o.length := by omega
    have h1 := colE_1 E o i (by omega)
    have hnot : o[i] ∉ o.take i := by
      intro hm
      obtain ⟨j, hj, e⟩ := List.getElem_of_mem hm
      rw [List.length_take] at hj
      rw [List.getElem_take] at e
      exact List.pairwise_iff_getElem.1 (List.nodup_iff_pairwise_ne.1 hn) j i (by omega) hil (by omega) e
    have hle : ∀ x, (colE E o i).2 x ≤ i := colLe i (by omega)
    rw [List.take_succ_eq_append_getElem hil] at ha hb
    rw [colE_next hil]
    unfold colS
    dsimp only
    rw [h1]
    -- a neighbour that is coloured already
    have hused : ∀ y, y ∈ o.take i → has E (o[i] : Nat) (y : Nat) = true → (colE E o i).2 y ≠ mexF (usedF (colE E o i).2 (nbr E o[i] (o.take i))) 512 0 := fun y hy hh e => by
      have hb := mex_not (u := usedF (colE E o i).2 (nbr E o[i] (o.take i))) (m := i + 1) (fun k hk => by
        obtain ⟨w, -, rfl⟩ := used_bit.1 hk
        have := hle w
        omega) 512 0 (by omega)
      rw [← e, used_bit.2 ⟨y, mem_nbr.2 ⟨hy, hh⟩, rfl⟩] at hb
      cases hb
    have hne : ∀ y, y ∈ o.take i → y ≠ o[i] := fun y hy e => hnot (e ▸ hy)
    rcases List.mem_append.1 ha with ha | ha
    · rcases List.mem_append.1 hb with hb | hb
      · rw [upd_ne (hne a ha), upd_ne (hne b hb)]
        exact ih a ha b hb hab
      · have eb := List.mem_singleton.1 hb
        subst eb
        rw [upd_ne (hne a ha), upd_eq]
        exact hused a ha (by rw [has_comm]; exact hab)
    · have ea := List.mem_singleton.1 ha
      subst ea
      rcases List.mem_append.1 hb with hb | hb
      · rw [upd_ne (hne b hb), upd_eq]
        exact fun e => hused b hb hab e.symm
      · have eb := List.mem_singleton.1 hb
        rw [eb, hE] at hab
        cases hab
where
  colLe : ∀ k, k ≤ o.length → ∀ x, (colE E o k).2 x ≤ k
    | 0, _, x => by simp [colE]
    | k + 1, hk, x => by
      have ih := colLe k (by omega)
      rw [colE_next (by omega)]
      unfold colS upd
      dsimp only
      split
      · refine mexF_le (m := k + 1) (fun j hj => ?_) 512 0 (by omega)
        obtain ⟨w, -, rfl⟩ := used_bit.1 hj
        have := ih w
        omega
      · have := ih x; omega
theorem cho_pair : ∀ (l ch : List Nat), (∀ x ∈ ch, ∀ y ∈ ch, x ≠ y → has E x y = true) → ∀ x ∈ l.foldl (choR E) ch, ∀ y ∈ l.foldl (choR E) ch, x ≠ y → has E x y = true
  | [], _, h => h
  | v :: l, ch, h => by
    rw [List.foldl_cons]
    refine cho_pair l _ ?_
    unfold choR
    split
    · next hc =>
      have hall : ∀ a ∈ ch, has E v a = true := by
        unfold nbr at hc
        exact List.length_filter_eq_length_iff.1 hc
      intro x hx y hy hne
      rcases List.mem_append.1 hx with hx | hx
      · rcases List.mem_append.1 hy with hy | hy
        · exact h x hx y hy hne
        · rw [List.mem_singleton.1 hy, has_comm]; exact hall x hx
      · rw [List.mem_singleton.1 hx]
        rcases List.mem_append.1 hy with hy | hy
        · exact hall y hy
        · exact absurd ((List.mem_singleton.1 hx).trans (List.mem_singleton.1 hy).symm) hne
    · exact h
theorem cliq_pair {x y : Nat} (hx : x ∈ cliq E n) (hy : y ∈ cliq E n) (hne : x ≠ y) : has E x y = true := by
  unfold cliq pickIn cho at hx hy
  have h1 := of_decide_eq_true (List.mem_filter.1 hx).2
  have h2 := of_decide_eq_true (List.mem_filter.1 hy).2
  exact cho_pair _ [] (fun x hx => by cases hx) x h1 y h2 hne
theorem cliq_lt : (cliq E n).Pairwise (· < ·) := List.Pairwise.filter _ List.pairwise_lt_range
theorem cliq_le : (cliq E n).length ≤ (rem E n n).2.2 + 1 := by
  have hnd : (cliq E n).Nodup := cliq_lt.imp (fun h => Nat.ne_of_lt h)
  have hlt : ∀ x ∈ cliq E n, x < n := fun x hx => by unfold cliq pickIn at hx; exact List.mem_range.1 (List.mem_filter.1 hx).1
  by_cases h0 : cliq E n = []
  · rw [h0]; simp
  obtain ⟨x0, hx0⟩ := List.exists_mem_of_ne_nil _ h0
  have hx1 : x0 ∈ (rem E n n).1 := (rem_perm.2.2 x0).2 (hlt x0 hx0)
  obtain ⟨k, hk, hm2, hb⟩ : ∃ k, ∃ hk : k < (rem E n n).1.length, (rem E n n).1[k] ∈ cliq E n ∧ ∀ j (hj : j < k), (rem E n n).1[j]'(by omega) ∉ cliq E n := by
    have hk : (rem E n n).1.findIdx (fun x => decide (x ∈ cliq E n)) < (rem E n n).1.length := List.findIdx_lt_length.2 ⟨x0, hx1, decide_eq_true hx0⟩
    refine ⟨_, hk, of_decide_eq_true (List.findIdx_getElem (xs := (rem E n n).1) (p := fun x => decide (x ∈ cliq E n)) (w := hk)), fun j hj => ?_⟩
    have := List.not_of_lt_findIdx hj
    simpa using this
  have hkn : k < n := by have := rem_perm (E := E) (n := n); omega
  have hat := (rem_at (E := E) hkn hk).1
  have h2 := nodup_le (l := (cliq E n).erase (rem E n n).1[k]) (m := nbr E (rem E n n).1[k] (rem E n k).2.1) (hnd.erase _) (fun y hy => by
    have hy2 := List.mem_of_mem_erase hy
    have hne : y ≠ (rem E n n).1[k] := fun e => by
      rw [e] at hy
      exact (List.Nodup.mem_erase_iff hnd).1 hy |>.1 rfl
    refine mem_nbr.2 ⟨?_, cliq_pair hm2 hy2 (fun e => hne e.symm)⟩
    rw [(rem_iff k (by omega)).2, ← rem_take (by omega)]
    refine ⟨hlt y hy2, fun hyt => ?_⟩
    obtain ⟨j, hj, e⟩ := List.getElem_of_mem hyt
    rw [List.length_take] at hj
    rw [List.getElem_take] at e
    exact hb j (by omega) (by rw [e]; exact hy2))
  rw [List.length_erase_of_mem hm2] at h2
  omega
theorem cliq_pos (hn : 0 < n) : 0 < (cliq E n).length := by
  have hl := rem_perm (E := E) (n := n)
  obtain ⟨v, t, hvt⟩ : ∃ v t, (rem E n n).1.reverse = v :: t := by
    cases hr : (rem E n n).1.reverse with
    | nil => have := congrArg List.length hr; rw [List.length_reverse, hl.2.1] at this; simp at this; omega
    | cons v t => exact ⟨v, t, rfl⟩
  have hv : v < n := (hl.2.2 v).1 (List.mem_reverse.1 (by rw [hvt]; simp))
  have hmem : ∀ (l ch : List Nat), v ∈ ch → v ∈ l.foldl (choR E) ch := fun l => by
    induction l with
    | nil => exact fun _ h => h
    | cons a l ih =>
      intro ch h
      rw [List.foldl_cons]
      refine ih _ ?_
      unfold choR
      split
      · exact List.mem_append_left _ h
      · exact h
  refine List.length_pos_of_mem (a := v) ?_
  unfold cliq pickIn cho
  rw [hvt, List.foldl_cons]
  exact List.mem_filter.2 ⟨List.mem_range.2 hv, decide_eq_true (hmem t _ (by unfold choR nbr; simp))⟩
theorem cliq_zero : (cliq E 0).length = 0 := rfl
end
end Ge
end Go.Proofs.YtjoomgojnpcbeaaDoor
end
