/- A bundle of texts: PkM. -/
import Derived.Test.YtpkepgcmifdpfaaGreatDoorR04
import Derived.Lib.RowBridge
import Derived.Lib.SlicesCompact
section
namespace Go.Proofs.YtpkepgcmifdpfaaGreatDoor
open Go
namespace M
def mvAt (l : List Mv) (st : Int) : Option Mv := l.find? fun m => decide (m.st = st)
theorem mvAt_some {l : List Mv} {st : Int} {m : Mv} (h : mvAt l st = some m) : m ∈ l ∧ m.st = st := by
  have h1 := List.mem_of_find?_eq_some h
  have h2 := List.find?_some h
  exact ⟨h1, by simpa using h2⟩
theorem mvAt_none {l : List Mv} {st : Int} (h : mvAt l st = none) : ∀ m ∈ l, m.st ≠ st := by
  intro m hm e
  have := List.find?_eq_none.1 h m hm
  simp [e] at this
theorem mvAt_mem {l : List Mv} (hp : l.Pairwise fun x y => x.st < y.st) {m : Mv} (hm : m ∈ l) : mvAt l m.st = some m := by
  cases h : mvAt l m.st with
  | none => exact absurd rfl (mvAt_none h m hm)
  | some m' =>
    obtain ⟨h1, h2⟩ := mvAt_some h
    obtain ⟨i, hi, rfl⟩ := List.getElem_of_mem h1
    obtain ⟨j, hj, rfl⟩ := List.getElem_of_mem hm
    have := mvsOk_inj hp hi hj h2
    subst this
    rfl
def own (l : List Mv) (ss : List Int) : List Int := ss.filter fun s => (mvAt l s).isSome
theorem own_mem {l : List Mv} {ss : List Int} {s : Int} (h : s ∈ own l ss) : s ∈ ss ∧ ∃ m, m ∈ l ∧ m.st = s := by
  obtain ⟨h1, h2⟩ := List.mem_filter.1 h
  cases e : mvAt l s with
  | none => rw [e] at h2; cases h2
  | some m => exact ⟨h1, m, mvAt_some e⟩
theorem mem_own {l : List Mv} (hp : l.Pairwise fun x y => x.st < y.st) {ss : List Int} {m : Mv} (hm : m ∈ l) (hs : m.st ∈ ss) : m.st ∈ own l ss := List.mem_filter.2 ⟨hs, by rw [mvAt_mem hp hm]; rfl⟩
theorem own_snoc (l : List Mv) (ss : List Int) (s : Int) : own l (ss ++ [s]) = own l ss ++ (if (mvAt l s).isSome then [s] else []) := by
  unfold own
  rw [List.filter_append]
  congr 1
  by_cases h : (mvAt l s).isSome = true
  · simp [h]
  · simp [h]
theorem own_len (l : List Mv) (ss : List Int) : (own l ss).length ≤ ss.length := List.length_filter_le _ _
end M
section
variable {l : List Int}
theorem compact_rise (h : l.Pairwise (· ≤ ·)) : (Lib.compact l).Pairwise (· < ·) ∧ ∀ x, x ∈ Lib.compact l ↔ x ∈ l := by
  have hup : ∀ m, m ≤ l.length → (Lib.compactUpTo l.toArray m).Pairwise (· < ·) ∧ (∀ x, x ∈ Lib.compactUpTo l.toArray m ↔ x ∈ l.take m) ∧ ∀ x ∈ Lib.compactUpTo l.toArray m, ∀ k (hk : k < l.length), m ≤ k + 1 → 0 < m → x ≤ l[k] := by
    intro m
    induction m with
    | zero => intro _; exact ⟨by simp [Lib.compactUpTo], by simp [Lib.compactUpTo], by simp [Lib.compactUpTo]⟩
    | succ m ih =>
      intro hm
      obtain ⟨i1, i2, i3⟩ := ih (by omega)
      have hml : m < l.length := by omega
      have hat : l.toArray[m]! = l[m] := by rw [getElem!_pos l.toArray m (by simpa using hml)]; simp
      rw [Lib.compactUpTo_succ, List.take_succ_eq_append_getElem hml]
      have hle : ∀ x ∈ Lib.compactUpTo l.toArray m, ∀ k (hk : k < l.length), m ≤ k → x ≤ l[k] := fun x hx k hk hmk => by
        obtain ⟨j, hj, rfl⟩ := List.getElem_of_mem ((i2 x).1 hx)
        have hj2 : j < m := by simp at hj; omega
        rw [List.getElem_take]
        exact (List.pairwise_iff_getElem.1 h) j k (by omega) hk (by omega)
      by_cases hk : Lib.keeps l.toArray m = true
      · rw [if_pos hk, hat]
        refine ⟨List.pairwise_append.2 ⟨i1, by simp, fun a ha b hb => ?_⟩, fun x => ?_, fun x hx k hk2 hmk _ => ?_⟩
        · rw [List.mem_singleton.1 hb]
          have h1 := hle a ha m hml (Nat.le_refl _)
          have h2 : a ≠ l[m] := fun e => by
            have hm0 : 0 < m := by
              rcases Nat.eq_zero_or_pos m with h0 | h0
              · subst h0; simp [Lib.compactUpTo] at ha
              · exact h0
            have h3 : l[m - 1] = l[m] := by
              have h4 := (List.pairwise_iff_getElem.1 h) (m - 1) m (by omega) hml (by omega)
              obtain ⟨j, hj, e2⟩ := List.getElem_of_mem ((i2 a).1 ha)
              rw [List.getElem_take] at e2
              have hj2 : j < m := by simp at hj; omega
              have h5 : l[j] ≤ l[m - 1] := by
                rcases Nat.lt_or_ge j (m - 1) with h6 | h6
                · exact (List.pairwise_iff_getElem.1 h) j (m - 1) (by omega) (by omega) h6
                · have : j = m - 1 := by omega
                  subst this; exact Int.le_refl _
              omega
            unfold Lib.keeps at hk
            rw [decide_eq_true_eq] at hk
            rcases hk with h4 | h4
            · omega
            · rw [hat, getElem!_pos l.toArray (m - 1) (by simp; omega)] at h4
              simp [h3] at h4
          omega
        · rw [List.mem_append, List.mem_append, i2]
        · rcases List.mem_append.1 hx with hx | hx
          · exact hle x hx k hk2 (by omega)
          · rw [List.mem_singleton.1 hx]
            rcases Nat.lt_or_ge m k with h6 | h6
            · exact (List.pairwise_iff_getElem.1 h) m k hml hk2 h6
            · have : k = m := by omega
              subst this; exact Int.le_refl _
      · rw [if_neg hk, List.append_nil]
        have hk' : ¬ (m = 0 ∨ l.toArray[m]! ≠ l.toArray[m - 1]!) := by unfold Lib.keeps at hk; simpa using hk
        have hm0 : 0 < m := by omega
        have he : l[m] = l[m - 1] := by
          have h4 : l.toArray[m]! = l.toArray[m - 1]! := by
            rcases Classical.em (l.toArray[m]! = l.toArray[m - 1]!) with h5 | h5
            · exact h5
            · exact absurd (.inr h5) hk'
          rw [hat, getElem!_pos l.toArray (m - 1) (by simp; omega)] at h4
          simpa using h4
        refine ⟨i1, fun x => ?_, fun x hx k hk2 hmk _ => hle x hx k hk2 (by omega)⟩
        rw [i2, List.mem_append, List.mem_singleton]
        constructor
        · exact .inl
        · rintro (h5 | h5)
          · exact h5
          · rw [h5, he]
            exact List.mem_take_iff_getElem.2 ⟨m - 1, by omega, rfl⟩
  have := hup l.length (Nat.le_refl _)
  rw [List.take_length] at this
  exact ⟨this.1, this.2.1⟩
end
theorem rise_eq {α : Type} (f : α → Int) {a b : List α} (ha : a.Pairwise fun x y => f x < f y) (hb : b.Pairwise fun x y => f x < f y) (h : ∀ x, x ∈ a ↔ x ∈ b) : a = b := by
  induction a generalizing b with
  | nil =>
    cases b with
    | nil => rfl
    | cons y b => have := (h y).2 (by simp); simp at this
  | cons x a ih =>
    cases b with
    | nil => have := (h x).1 (by simp); simp at this
    | cons y b =>
      rw [List.pairwise_cons] at ha hb
      have hxy : x = y := by
        rcases List.mem_cons.1 ((h x).1 (by simp)) with h1 | h1
        · exact h1
        · rcases List.mem_cons.1 ((h y).2 (by simp)) with h2 | h2
          · exact h2.symm
          · have := ha.1 y h2
            have := hb.1 x h1
            omega
      subst hxy
      congr 1
      refine ih ha.2 hb.2 fun z => ?_
      constructor
      · intro hz
        rcases List.mem_cons.1 ((h z).1 (by simp [hz])) with h1 | h1
        · subst h1; have := ha.1 z hz; omega
        · exact h1
      · intro hz
        rcases List.mem_cons.1 ((h z).2 (by simp [hz])) with h1 | h1
        · subst h1; have := hb.1 z hz; omega
        · exact h1
namespace M
def picked (l : List Mv) (ss : List Int) : List Mv := ss.filterMap fun s => mvAt l s
theorem picked_eq {l : List Mv} (hp : l.Pairwise fun x y => x.st < y.st) {ss cs : List Int} (hc : cs.Pairwise (· < ·)) (hm : ∀ x, x ∈ cs ↔ x ∈ own l ss) : picked l cs = pick l ss := by
  refine rise_eq (fun m : Mv => m.st) ?_ (List.Pairwise.sublist (pick_sub l ss) hp) fun m => ?_
  · unfold picked
    rw [List.pairwise_filterMap]
    refine hc.imp fun {a b} hab x hx y hy => ?_
    rw [(mvAt_some hx).2, (mvAt_some hy).2]
    exact hab
  · unfold picked pick
    rw [List.mem_filterMap, List.mem_filter]
    constructor
    · rintro ⟨s, hs, e⟩
      obtain ⟨h1, h2⟩ := mvAt_some e
      obtain ⟨h3, -⟩ := own_mem ((hm s).1 hs)
      exact ⟨h1, by rw [h2]; simpa using h3⟩
    · rintro ⟨h1, h2⟩
      exact ⟨m.st, (hm _).2 (mem_own hp h1 (by simpa using h2)), mvAt_mem hp h1⟩
theorem picked_take {l : List Mv} {cs : List Int} {k : Nat} (hk : k < cs.length) {m : Mv} (h : mvAt l cs[k] = some m) : picked l (cs.take (k + 1)) = picked l (cs.take k) ++ [m] := by
  unfold picked
  rw [List.take_succ_eq_append_getElem hk, List.filterMap_append]
  simp [h]
end M
end Go.Proofs.YtpkepgcmifdpfaaGreatDoor
end
