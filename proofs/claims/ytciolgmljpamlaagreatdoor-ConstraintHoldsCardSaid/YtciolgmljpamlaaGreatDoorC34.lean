/- A bundle of texts: Srt. -/
import Derived.Test.YtciolgmljpamlaaGreatDoorC25
import Derived.Test.YtciolgmljpamlaaGreatDoorC32
import Derived.Test.YtciolgmljpamlaaGreatDoorC33
section
namespace Go.Proofs.YtciolgmljpamlaaGreatDoor
open Go Go.RowKit Go.Sort Go.Proofs
set_option maxRecDepth 100000
instance : Inhabited P5 := ⟨⟨0, 0, 0, 0, 0⟩⟩
def M.srt5 (l : List P5) : List P5 := l.mergeSort fun x y => !(ltOf M.cmp5) y x
theorem M.lt5_ltOf {x y : P5} : ltOf M.cmp5 x y = true ↔ M.lt5 x y := by unfold ltOf; rw [decide_eq_true_eq, M.lt5_cmp]
theorem M.swo5 : SWO (ltOf M.cmp5) := by
  refine ⟨fun x => ?_, fun x y z h1 h2 => ?_, fun x y z h1 h2 => ?_⟩
  · rw [Bool.eq_false_iff]; intro h; exact M.lt5_irr _ (M.lt5_ltOf.1 h)
  · exact M.lt5_ltOf.2 (M.lt5_tr (M.lt5_ltOf.1 h1) (M.lt5_ltOf.1 h2))
  · rw [Bool.eq_false_iff] at *
    intro h
    have h' := M.lt5_ltOf.1 h
    by_cases h3 : M.lt5 y x
    · exact h2 (M.lt5_ltOf.2 (M.lt5_tr h3 h'))
    · have := M.lt5_tot (fun h4 => h1 (M.lt5_ltOf.2 h4)) h3
      subst this
      exact h2 h
theorem M.srt5_perm (l : List P5) : (M.srt5 l).Perm l := List.mergeSort_perm _ _
theorem M.srt5_sorted (l : List P5) : (M.srt5 l).Pairwise fun x y => ¬ M.lt5 y x := by
  have h := List.pairwise_mergeSort (le := fun x y => !(ltOf M.cmp5) y x) (fun a b c h1 h2 => by
    simp only [Bool.not_eq_true', Bool.eq_false_iff] at *
    intro h
    exact absurd (M.swo5.ntrans c b a (by simpa using h2) (by simpa using h1)) (by simp [h])) (fun a b => by
    cases h : ltOf M.cmp5 a b
    · simp
    · have : ltOf M.cmp5 b a = false := by
        rw [Bool.eq_false_iff]; intro h2
        exact M.lt5_irr _ (M.lt5_tr (M.lt5_ltOf.1 h) (M.lt5_ltOf.1 h2))
      simp [this]) l
  exact h.imp (fun h1 h2 => by rw [M.lt5_ltOf.2 h2] at h1; cases h1)
theorem M.srt5_len (l : List P5) : (M.srt5 l).length = l.length := (M.srt5_perm l).length_eq
theorem grow3 (w : World) (a b c : Obj) (n : Nat) : ((((w.alloc a).alloc b).drewN n).alloc c) = grow (w.drewN n) #[a, b, c] := by
  have e : ((w.heap.push a).push b).push c = w.heap ++ #[a, b, c] := by apply Array.ext'; simp
  exact congrArg (fun h => { w.drewN n with heap := h }) e
theorem M.srt5_nil : M.srt5 [] = [] := List.eq_nil_of_length_eq_zero (by rw [M.srt5_len]; rfl)
theorem comparePairs_lays (blk off size : Nat) (w : World) : CmpLays Tryz.prog 41 #[] (encL 5 p5cell) 5 M.cmp5 blk off size w := by
  intro m os dk _ x y
  have h := comparePairs_grow x y (sortWorldK (encL 5 p5cell) 5 w blk off m dk os)
  refine h.mono ?_
  rintro e w' ⟨he, n, hw⟩
  exact ⟨he, n, _, hw.trans (grow3 _ _ _ _ _)⟩
theorem sortPairs_ok (base : Nat) (v : Value) (xs : List P5) (w : World) (hown : w.ownsRow base 66 5 v xs.length (flat 5 p5cell xs)) (hl : xs.length ≤ 100000) :
    Calls Tryz.prog 74 #[v, .func (.func 41) #[] #[]] w fun e w' => e = .returned (.tuple #[]) ∧ w'.ownsRow base 66 5 v xs.length (flat 5 p5cell (M.srt5 xs)) ∧ w.grownBy w' v.ownBlock := by
  rcases hown.2 with ⟨rfl, h0⟩ | ⟨g, cap, cur, rfl, hb, hg, _⟩
  · obtain rfl : xs = [] := List.eq_nil_of_length_eq_zero h0
    refine (AnyF.slices_SortFunc_none sortP none 0 _ w).mono ?_
    rintro e w' ⟨rfl, rfl⟩
    exact ⟨rfl, by rw [M.srt5_nil]; exact hown, World.grownBy.refl _ _⟩
  · have hgl : g < w.heap.size := (Array.getElem?_eq_some_iff.1 hg).1
    have h := AnyQ.slices_SortFunc_total sortP 5 Tryz.isAgg66 Tryz.sizeOf66 (encL 5 p5cell) (fun x => encL_len x) (fun x v hv => by
      obtain ⟨j, _, rfl⟩ := List.mem_map.1 hv
      exact p5_one _ _) M.cmp5 M.swo5 41 #[] g 0 cap xs.toArray w (fun _ _ => rfl) (comparePairs_lays _ _ _ _) (holdsK_own (by decide) hown) hgl (by simp; omega) (fun x y h1 h2 => M.lt5_tot (fun h => by rw [M.lt5_ltOf.2 h] at h1; cases h1) (fun h => by rw [M.lt5_ltOf.2 h] at h2; cases h2))
    rw [show xs.toArray.size = xs.length by simp] at h
    refine h.mono ?_
    rintro e w' ⟨rfl, n, os, rfl⟩
    obtain ⟨h1, h2⟩ := own_sortedK (n := n) (os := os) (ys := M.srt5 xs) (by decide) (M.srt5_len xs) hown
    exact ⟨rfl, h1, h2⟩
theorem compareLoads_lays (blk off size : Nat) (w : World) : CmpLays Tryz.prog 44 #[] (encL 5 p5cell) 5 M.cmp5 blk off size w := by
  intro m os dk _ x y
  have h := compareLoads_grow x y (sortWorldK (encL 5 p5cell) 5 w blk off m dk os)
  refine h.mono ?_
  rintro e w' ⟨he, n, hw⟩
  exact ⟨he, n, _, hw.trans (grow3 _ _ _ _ _)⟩
theorem sortLoads_ok (base : Nat) (v : Value) (xs : List P5) (w : World) (hown : w.ownsRow base 68 5 v xs.length (flat 5 p5cell xs)) (hl : xs.length ≤ 100000) :
    Calls Tryz.prog 75 #[v, .func (.func 44) #[] #[]] w fun e w' => e = .returned (.tuple #[]) ∧ w'.ownsRow base 68 5 v xs.length (flat 5 p5cell (M.srt5 xs)) ∧ w.grownBy w' v.ownBlock := by
  rcases hown.2 with ⟨rfl, h0⟩ | ⟨g, cap, cur, rfl, hb, hg, _⟩
  · obtain rfl : xs = [] := List.eq_nil_of_length_eq_zero h0
    refine (AnyF.slices_SortFunc_none sortL none 0 _ w).mono ?_
    rintro e w' ⟨rfl, rfl⟩
    exact ⟨rfl, by rw [M.srt5_nil]; exact hown, World.grownBy.refl _ _⟩
  · have hgl : g < w.heap.size := (Array.getElem?_eq_some_iff.1 hg).1
    have h := AnyQ.slices_SortFunc_total sortL 5 Tryz.isAgg68 Tryz.sizeOf68 (encL 5 p5cell) (fun x => encL_len x) (fun x v hv => by
      obtain ⟨j, _, rfl⟩ := List.mem_map.1 hv
      exact p5_one _ _) M.cmp5 M.swo5 44 #[] g 0 cap xs.toArray w (fun _ _ => rfl) (compareLoads_lays _ _ _ _) (holdsK_own (by decide) hown) hgl (by simp; omega) (fun x y h1 h2 => M.lt5_tot (fun h => by rw [M.lt5_ltOf.2 h] at h1; cases h1) (fun h => by rw [M.lt5_ltOf.2 h] at h2; cases h2))
    rw [show xs.toArray.size = xs.length by simp] at h
    refine h.mono ?_
    rintro e w' ⟨rfl, n, os, rfl⟩
    obtain ⟨h1, h2⟩ := own_sortedK (n := n) (os := os) (ys := M.srt5 xs) (by decide) (M.srt5_len xs) hown
    exact ⟨rfl, h1, h2⟩
end Go.Proofs.YtciolgmljpamlaaGreatDoor
end
