/- A bundle of texts: Open. -/
import Derived.Test.YtpkepgcmifdpfaaGreatDoorR01
import Derived.Test.YtpkepgcmifdpfaaGreatDoorR43
import Derived.Deep.Slices
import Derived.Deep.Fields
section
namespace Go.Proofs.YtpkepgcmifdpfaaGreatDoor
open Go.ChangeShapes Go.WideShapes Go.RowKit Go.Deep
theorem list_of_forall {α : Type} {R : Nat → α → Prop} : ∀ (n : Nat), (∀ k, k < n → ∃ y, R k y) → ∃ xs : List α, xs.length = n ∧ ∀ k (h : k < xs.length), R k xs[k]
  | 0, _ => ⟨[], rfl, fun k h => absurd h (by simp)⟩
  | n + 1, h => by
    obtain ⟨xs, hl, hx⟩ := list_of_forall (R := R) n (fun k hk => h k (by omega))
    obtain ⟨y, hy⟩ := h n (by omega)
    refine ⟨xs ++ [y], by simp [hl], fun k hk => ?_⟩
    rw [List.getElem_append]
    split
    · exact hx k _
    · have : k = n := by simp at hk; omega
      subst this
      simpa using hy
theorem block_of_cell {w : World} {p : Addr} {v : Value} (h : w.cell? p = some v) : p.block < w.heap.size := by
  apply Nat.lt_of_not_le; intro hle
  simp [World.cell?, Array.getElem?_eq_none hle] at h
def allInts (P : Program) (fs : Array Field) : Bool := fs.all fun f => match P.underlying f.type with | some (.int .i64) => true | _ => false
section
variable {H : Type} {enc : TypeId × Value → H} {P : Program} {w : World} {base : Nat} {spare : Nat → Bool} {held : Bool}
theorem trod_ints {t : TypeId} {fs : Array Field} {fuel : Nat} {cs : List Value} {x : DataW H × List MemPlace} (hs : P.underlying t = some (.struct fs)) (hone : oneCellFields P fs = true) (hC : P.cellsOf t = fs.size) (hint : allInts P fs = true)
    (h : DataW.trod enc P w base spare held fuel t cs = some x) : ∃ ns : List Int, cs = ns.map (Value.int .i64) ∧ ns.length = fs.size ∧ ∀ n ∈ ns, (Lit.int .i64 n).wf = true := by
  obtain ⟨ys, n, _, _, hlen, hyl, hf⟩ := DataW.trod_struct hs h
  have key : ∀ j, j < fs.size → ∃ m : Int, cs[j]? = some (.int .i64 m) ∧ (Lit.int .i64 m).wf = true := by
    intro j hj
    obtain ⟨ho, hk⟩ := hone_of hone j fs[j] (by simp [hj])
    have h1 := hf j fs[j] (by simp [hj])
    rw [ho, hk] at h1
    have hjl : j < cs.length := by omega
    have e1 : (cs.drop j).take 1 = [cs[j]] := by rw [List.drop_eq_getElem_cons hjl]; rfl
    rw [e1, List.getElem?_eq_getElem (by omega)] at h1
    have hi : P.underlying fs[j].type = some (.int .i64) := by
      have := Array.all_eq_true.1 hint j hj
      revert this
      split
      · intro; assumption
      · intro h; cases h
    obtain ⟨m, e2, _, hw⟩ := DataW.trod_int hi h1
    refine ⟨m, ?_, hw⟩
    rw [List.getElem?_eq_getElem hjl]
    exact congrArg some (by simpa using e2)
  obtain ⟨ns, hl, hn⟩ := list_of_forall (R := fun j m => cs[j]? = some (.int .i64 m) ∧ (Lit.int .i64 m).wf = true) fs.size key
  refine ⟨ns, ?_, hl, fun m hm => ?_⟩
  · apply List.ext_getElem?
    intro i
    by_cases hi : i < ns.length
    · rw [(hn i hi).1]; simp [hi]
    · rw [List.getElem?_eq_none (by omega), List.getElem?_eq_none (by simp; omega)]
  · obtain ⟨i, hi, rfl⟩ := List.getElem_of_mem hm
    exact (hn i hi).2
theorem open_list {α : Type} {size : Nat} {cell : α → Nat → Value} {R : α → Prop} {t e : TypeId} {v : Value} {r : Reach} {b0 : Nat} {d : DataW H} {p : List MemPlace} (ht : P.underlying t = some (.slice e)) (hC : P.cellsOf e = size) (hs : 0 < size)
    (hel : ∀ n cs x, DataW.trod enc P w base spare held n e cs = some x → ∃ y : α, R y ∧ ∀ j, j < size → cs[j]? = some (cell y j))
    (hv : Value.okWide P w r b0 t v) (h : DataW.Trod enc P w base spare held t v d p) :
    ∃ (A : Option Addr) (c : Nat) (xs : List α), v = .slice A xs.length c ∧ Sl size cell w w.heap.size A xs ∧ xs.length ≤ c ∧ c ≤ maxLen ∧ ∀ x ∈ xs, R x := by
  obtain ⟨a0, len0, cap0, rfl⟩ := okWide_slice ht hv
  obtain ⟨fuel, hf⟩ := h
  rcases open_slice ht hf with ⟨hcs, _⟩ | ⟨a, len, cap, m, n, D, Pl, hcs, _, hl, hm, hmm, _, hi⟩
  · have e1 : Value.slice a0 len0 cap0 = .slice none 0 0 := by simpa [Value.cells] using hcs
    rw [e1]
    exact ⟨none, 0, [], rfl, Sl.nil_, Nat.le_refl _, Nat.zero_le _, fun x hx => absurd hx (by simp)⟩
  · have e1 : Value.slice a0 len0 cap0 = .slice (some a) len cap := by simpa [Value.cells] using hcs
    rw [e1]
    have hlm : len ≤ m := by rw [hmm]; split <;> omega
    obtain ⟨xs, hxl, hx⟩ := list_of_forall (R := fun k (y : α) => R y ∧ ∀ j, j < size → w.cell? (a.add (k * size + j)) = some (cell y j)) len (fun k hk => by
      obtain ⟨cs', h1, h2⟩ := hi k (by omega)
      obtain ⟨y, hr, hy⟩ := hel _ _ _ h2
      obtain ⟨_, hcl, hat⟩ := World.cells?_some h1
      refine ⟨y, hr, fun j hj => ?_⟩
      have := hat j (by omega)
      rw [hC, Go.Proofs.YtpkepgcmifdpfaaGreatDoor.add_add] at this
      rw [this, hy j hj])
    subst hxl
    refine ⟨some a, cap, xs, rfl, fun k hk => ⟨a, rfl, ?_, (hx k hk).2⟩, hl, hm, fun x hx' => ?_⟩
    · have := block_of_cell ((hx k hk).2 0 hs)
      rwa [Go.Proofs.YtpkepgcmifdpfaaGreatDoor.add_block] at this
    · obtain ⟨i, hi', rfl⟩ := List.getElem_of_mem hx'
      exact (hx i hi').1
theorem trod_list {α : Type} {size : Nat} {cell : α → Nat → Value} {R : α → Prop} {t e : TypeId} {fuel : Nat} {cs : List Value} {x : DataW H × List MemPlace} (ht : P.underlying t = some (.slice e)) (hC : P.cellsOf e = size) (hs : 0 < size)
    (hel : ∀ n cs x, DataW.trod enc P w base spare held n e cs = some x → ∃ y : α, R y ∧ ∀ j, j < size → cs[j]? = some (cell y j))
    (hf : DataW.trod enc P w base spare held fuel t cs = some x) :
    ∃ (A : Option Addr) (c : Nat) (xs : List α), cs = [.slice A xs.length c] ∧ Sl size cell w w.heap.size A xs ∧ xs.length ≤ c ∧ c ≤ maxLen ∧ ∀ x ∈ xs, R x := by
  rcases open_slice ht hf with ⟨hcs, _⟩ | ⟨a, len, cap, m, n, D, Pl, hcs, _, hl, hm, hmm, _, hi⟩
  · exact ⟨none, 0, [], hcs, Sl.nil_, Nat.le_refl _, Nat.zero_le _, fun x hx => absurd hx (by simp)⟩
  · have hlm : len ≤ m := by rw [hmm]; split <;> omega
    obtain ⟨xs, hxl, hx⟩ := list_of_forall (R := fun k (y : α) => R y ∧ ∀ j, j < size → w.cell? (a.add (k * size + j)) = some (cell y j)) len (fun k hk => by
      obtain ⟨cs', h1, h2⟩ := hi k (by omega)
      obtain ⟨y, hr, hy⟩ := hel _ _ _ h2
      obtain ⟨_, hcl, hat⟩ := World.cells?_some h1
      refine ⟨y, hr, fun j hj => ?_⟩
      have := hat j (by omega)
      rw [hC, Go.Proofs.YtpkepgcmifdpfaaGreatDoor.add_add] at this
      rw [this, hy j hj])
    subst hxl
    refine ⟨some a, cap, xs, hcs, fun k hk => ⟨a, rfl, ?_, (hx k hk).2⟩, hl, hm, fun x hx' => ?_⟩
    · have := block_of_cell ((hx k hk).2 0 hs)
      rwa [Go.Proofs.YtpkepgcmifdpfaaGreatDoor.add_block] at this
    · obtain ⟨i, hi', rfl⟩ := List.getElem_of_mem hx'
      exact (hx i hi').1
theorem trod_field {t : TypeId} {fs : Array Field} {fuel : Nat} {cs : List Value} {x : DataW H × List MemPlace} (hs : P.underlying t = some (.struct fs)) (h : DataW.trod enc P w base spare held fuel t cs = some x) (j : Nat) (ty : TypeId) (off k : Nat) (hj : (fs[j]?).map (fun f => (f.type, f.offset)) = some (ty, off)) (hk : P.cellsOf ty = k) :
    ∃ n y, DataW.trod enc P w base spare held n ty ((cs.drop off).take k) = some y := by
  obtain ⟨f, hf0, hf1⟩ := Option.map_eq_some_iff.1 hj
  obtain ⟨ys, n, _, _, hlen, hyl, hf⟩ := DataW.trod_struct hs h
  have h1 := hf j f hf0
  have hlt : j < fs.size := (Array.getElem?_eq_some_iff.1 hf0).1
  rw [List.getElem?_eq_getElem (by omega)] at h1
  obtain ⟨rfl, rfl⟩ := Prod.mk.inj hf1
  subst hk
  exact ⟨n, _, h1⟩
theorem trod_len {t : TypeId} {fs : Array Field} {fuel : Nat} {cs : List Value} {x : DataW H × List MemPlace} (hs : P.underlying t = some (.struct fs)) (h : DataW.trod enc P w base spare held fuel t cs = some x) : cs.length = P.cellsOf t := by
  obtain ⟨ys, n, _, _, hlen, hyl, hf⟩ := DataW.trod_struct hs h
  exact hlen
theorem int_el {i : TypeId} (hi : P.underlying i = some (.int .i64)) (n : Nat) (cs : List Value) (x : DataW H × List MemPlace) (h : DataW.trod enc P w base spare held n i cs = some x) : ∃ y : Int, (Lit.int .i64 y).wf = true ∧ ∀ j, j < 1 → cs[j]? = some (icell y j) := by
  obtain ⟨m, e, _, hw⟩ := DataW.trod_int hi h
  refine ⟨m, hw, fun j hj => ?_⟩
  obtain rfl : j = 0 := by omega
  rw [e]; rfl
end
end Go.Proofs.YtpkepgcmifdpfaaGreatDoor
end
