/- A bundle of texts: Tab2. -/
import Derived.Lib.LaidTab
section
namespace Go.Proofs.YtciolgmljpamlaaGreatDoor
open Go Go.Lib
theorem cells_of_tab2 {H : Type} {enc : TypeId × Value → H} {P : Program} {w : World} {base : Nat} {sp : Nat → Bool} {held : Bool} {fuel : Nat} {t e f : TypeId} {n m : Nat} {k : IntKind} {cs : List Value} {rows : List (List Int)} {p : List MemPlace}
    (ht : P.underlying t = some (.array n e)) (he : P.underlying e = some (.array m f)) (hf : P.underlying f = some (.int k)) (hcf : P.cellsOf f = 1) (hce : P.cellsOf e = m) (hct : P.cellsOf t = n * m)
    (h : DataW.trod enc P w base sp held fuel t cs = some (.agg (rows.map fun zs => tabData k zs), p)) (i : Nat) (hi : i < rows.length) : (cs.drop (i * m)).take m = rows[i].map fun z => Value.int k z := by
  cases fuel with
  | zero => simp [DataW.trod] at h
  | succ fuel =>
    simp only [DataW.trod, ht, hce, hct] at h
    split at h
    · rename_i hl
      obtain ⟨xs, hm, hx⟩ := Option.map_eq_some_iff.1 h
      have hxs : xs.map (·.1) = rows.map fun zs => (tabData k zs : DataW H) := by
        have := congrArg Prod.fst hx
        simpa using this
      have hxl : xs.length = n := by simpa using mapM_length hm
      have hrl : rows.length = n := by
        have := congrArg List.length hxs
        simp at this
        omega
      have hin : i < n := by omega
      obtain ⟨b, hb, hfb⟩ := mapM_at hm i i (by simp [hin])
      have h2 : (xs.map (·.1))[i]? = some b.1 := by simp [hb]
      rw [hxs] at h2
      have h3 : b.1 = tabData k rows[i] := by simpa [hi] using h2.symm
      have hfb' : DataW.trod enc P w base sp held fuel e ((cs.drop (i * m)).take m) = some (tabData k rows[i], b.2) := by rw [hfb, ← h3]
      exact cells_of_tab he hf hcf hce hfb'
    · cases h
theorem cells_of_row2 {cs : List Value} {m i j : Nat} {zs : List Int} {k : IntKind} {z : Int} (h : (cs.drop (i * m)).take m = zs.map fun z => Value.int k z) (hj : j < m) (hz : zs[j]? = some z) : cs[i * m + j]? = some (.int k z) := by
  have := congrArg (·[j]?) h
  simp only [List.getElem?_map, hz, List.getElem?_take_of_lt hj, List.getElem?_drop] at this
  exact this
end Go.Proofs.YtciolgmljpamlaaGreatDoor
end
