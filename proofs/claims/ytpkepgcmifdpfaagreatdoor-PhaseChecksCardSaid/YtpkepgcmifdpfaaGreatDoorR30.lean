/- A bundle of texts: ShelfP. -/
import Derived.Shelf.SortM.Plain
import Derived.Shelf.SortM.SortNone
import Derived.Ground.SlgmProg
import Derived.Sort.OwnSortedInts
import Derived.Test.YtpkepgcmifdpfaaGreatDoorProg
import Derived.Test.YtpkepgcmifdpfaaGreatDoorR26
import Derived.Shelf.Slices.CompactI
import Derived.Shelf.Slices.Clone
import Derived.Lib.RowBridge
section
namespace Go.Proofs.YtpkepgcmifdpfaaGreatDoor
open Go Go.RowKit Go.Sort Go.Shelf
set_option maxRecDepth 100000
def sortI_ren : Go.Shelf.Ren := ⟨fun | 5 => 69 | 8 => 101 | 7 => 100 | 19 => 135 | 20 => 136 | 10 => 126 | 11 => 127 | 12 => 128 | 13 => 129 | 14 => 130 | 15 => 131 | 16 => 132 | 17 => 133 | 18 => 134 | 30 => 147 | 31 => 148 | 32 => 149 | 33 => 150 | 34 => 151 | 35 => 152 | 40 => 159 | n => n, fun | 23 => 29 | 25 => 3 | 3 => 3 | 32 => 175 | 22 => 29 | 0 => 0 | 44 => 208 | 46 => 166 | 4 => 4 | 36 => 202 | 35 => 201 | 41 => 165 | 5 => 5 | 9 => 9 | 53 => 218 | 57 => 222 | 63 => 229 | 64 => 230 | n => n, fun | n => n⟩
theorem sortI : Go.Proofs.SlLaysM.n5 Tryz.prog sortI_ren := {
  mixed := by kernel_rfl
  f5 := ⟨Tryz.f69.name, by decide, Tryz.func69.trans (congrArg some (by kernel_rfl))⟩
  f7 := ⟨Tryz.f100.name, by decide, Tryz.func100.trans (congrArg some (by kernel_rfl))⟩
  f8 := Tryz.func101.trans (congrArg some (by kernel_rfl))
  f10 := ⟨Tryz.f126.name, by decide, Tryz.func126.trans (congrArg some (by kernel_rfl))⟩
  f11 := ⟨Tryz.f127.name, by decide, Tryz.func127.trans (congrArg some (by kernel_rfl))⟩
  f12 := ⟨Tryz.f128.name, by decide, Tryz.func128.trans (congrArg some (by kernel_rfl))⟩
  f13 := ⟨Tryz.f129.name, by decide, Tryz.func129.trans (congrArg some (by kernel_rfl))⟩
  f14 := ⟨Tryz.f130.name, by decide, Tryz.func130.trans (congrArg some (by kernel_rfl))⟩
  f15 := ⟨Tryz.f131.name, by decide, Tryz.func131.trans (congrArg some (by kernel_rfl))⟩
  f16 := ⟨Tryz.f132.name, by decide, Tryz.func132.trans (congrArg some (by kernel_rfl))⟩
  f17 := ⟨Tryz.f133.name, by decide, Tryz.func133.trans (congrArg some (by kernel_rfl))⟩
  f18 := ⟨Tryz.f134.name, by decide, Tryz.func134.trans (congrArg some (by kernel_rfl))⟩
  f19 := Tryz.func135.trans (congrArg some (by kernel_rfl))
  f20 := Tryz.func136.trans (congrArg some (by kernel_rfl))
  f30 := ⟨Tryz.f147.name, by decide, Tryz.func147.trans (congrArg some (by kernel_rfl))⟩
  f31 := Tryz.func148.trans (congrArg some (by kernel_rfl))
  f32 := Tryz.func149.trans (congrArg some (by kernel_rfl))
  f33 := ⟨Tryz.f150.name, by decide, Tryz.func150.trans (congrArg some (by kernel_rfl))⟩
  f34 := ⟨Tryz.f151.name, by decide, Tryz.func151.trans (congrArg some (by kernel_rfl))⟩
  f35 := ⟨Tryz.f152.name, by decide, Tryz.func152.trans (congrArg some (by kernel_rfl))⟩
  f40 := ⟨Tryz.f159.name, by decide, Tryz.func159.trans (congrArg some (by kernel_rfl))⟩
  t0 := Tryz.underlying0
  a0 := Tryz.isAgg0
  z0 := Tryz.sizeOf0
  v0 := Tryz.zeroValue0
  t3 := Tryz.underlying3
  a3 := Tryz.isAgg3
  z3 := Tryz.sizeOf3
  v3 := Tryz.zeroValue3
  t4 := Tryz.underlying4
  a4 := Tryz.isAgg4
  z4 := Tryz.sizeOf4
  v4 := Tryz.zeroValue4
  t5 := Tryz.underlying5
  a5 := Tryz.isAgg5
  z5 := Tryz.sizeOf5
  v5 := Tryz.zeroValue5
  t9 := Tryz.underlying9
  a9 := Tryz.isAgg9
  z9 := Tryz.sizeOf9
  v9 := Tryz.zeroValue9
  t22 := Tryz.underlying29
  a22 := Tryz.isAgg29
  z22 := Tryz.sizeOf29
  v22 := Tryz.zeroValue29
  t23 := Tryz.underlying29
  a23 := Tryz.isAgg29
  z23 := Tryz.sizeOf29
  v23 := Tryz.zeroValue29
  t25 := Tryz.underlying3
  a25 := Tryz.isAgg3
  z25 := Tryz.sizeOf3
  v25 := Tryz.zeroValue3
  t32 := Tryz.underlying175
  a32 := Tryz.isAgg175
  z32 := Tryz.sizeOf175
  v32 := Tryz.zeroValue175
  t35 := Tryz.underlying201
  a35 := Tryz.isAgg201
  z35 := Tryz.sizeOf201
  v35 := Tryz.zeroValue201
  t36 := Tryz.underlying202
  a36 := Tryz.isAgg202
  z36 := Tryz.sizeOf202
  v36 := Tryz.zeroValue202
  t41 := Tryz.underlying165
  a41 := Tryz.isAgg165
  z41 := Tryz.sizeOf165
  v41 := Tryz.zeroValue165
  t44 := Tryz.underlying208
  a44 := Tryz.isAgg208
  z44 := Tryz.sizeOf208
  v44 := Tryz.zeroValue208
  t46 := Tryz.underlying166
  a46 := Tryz.isAgg166
  z46 := Tryz.sizeOf166
  v46 := Tryz.zeroValue166
  t53 := Tryz.underlying218
  a53 := Tryz.isAgg218
  z53 := Tryz.sizeOf218
  v53 := Tryz.zeroValue218
  t57 := Tryz.underlying222
  a57 := Tryz.isAgg222
  z57 := Tryz.sizeOf222
  v57 := Tryz.zeroValue222
  t63 := Tryz.underlying229
  a63 := Tryz.isAgg229
  z63 := Tryz.sizeOf229
  v63 := Tryz.zeroValue229
  t64 := Tryz.underlying230
  a64 := Tryz.isAgg230
  z64 := Tryz.sizeOf230
  v64 := Tryz.zeroValue230 }
theorem flat_ints (l : List Int) : flat 1 icell l = l.map (Value.int .i64) := by
  induction l with
  | nil => rfl
  | cons x l ih =>
    have e : flat 1 icell (x :: l) = Value.int .i64 x :: flat 1 icell l := by simp [flat, icell]
    rw [e, ih]
    rfl
def clI_ren : Go.Shelf.Ren := ⟨fun | 15 => 77 | 20 => 83 | n => n, fun | 0 => 0 | 3 => 3 | 4 => 4 | 22 => 29 | n => n, fun | n => n⟩
theorem compI : Go.Proofs.Lays2.n20 Tryz.prog clI_ren := {
  mixed := by kernel_rfl
  f20 := Tryz.func83.trans (congrArg some (by kernel_rfl))
  t0 := Tryz.underlying0
  a0 := Tryz.isAgg0
  z0 := Tryz.sizeOf0
  v0 := Tryz.zeroValue0
  t3 := Tryz.underlying3
  a3 := Tryz.isAgg3
  z3 := Tryz.sizeOf3
  v3 := Tryz.zeroValue3
  t4 := Tryz.underlying4
  a4 := Tryz.isAgg4
  z4 := Tryz.sizeOf4
  v4 := Tryz.zeroValue4
  t22 := Tryz.underlying29
  a22 := Tryz.isAgg29
  z22 := Tryz.sizeOf29
  v22 := Tryz.zeroValue29
  i3 := by kernel_rfl }
theorem cloneI : Go.Proofs.Lays2.n15 Tryz.prog clI_ren := {
  mixed := by kernel_rfl
  f15 := Tryz.func77.trans (congrArg some (by kernel_rfl))
  t3 := Tryz.underlying3
  a3 := Tryz.isAgg3
  z3 := Tryz.sizeOf3
  v3 := Tryz.zeroValue3
  t4 := Tryz.underlying4
  a4 := Tryz.isAgg4
  z4 := Tryz.sizeOf4
  v4 := Tryz.zeroValue4
  t22 := Tryz.underlying29
  a22 := Tryz.isAgg29
  z22 := Tryz.sizeOf29
  v22 := Tryz.zeroValue29
  i3 := by kernel_rfl }
def M.isort (l : List Int) : List Int := l.mergeSort fun x y => decide (x ≤ y)
theorem M.isort_perm (l : List Int) : (M.isort l).Perm l := List.mergeSort_perm _ _
theorem M.isort_len (l : List Int) : (M.isort l).length = l.length := (M.isort_perm l).length_eq
theorem M.isort_le (l : List Int) : (M.isort l).Pairwise (· ≤ ·) :=
  (List.pairwise_mergeSort (fun a b c h1 h2 => by simp only [decide_eq_true_eq] at *; omega) (fun a b => by simp only [Bool.or_eq_true, decide_eq_true_eq]; omega) _).imp fun h => by simpa using h
theorem sortP_own {base g c n : Nat} {l : List Int} {w : World} (h : w.ownsRow base 3 1 (.slice (some ⟨g, 0, none⟩) n c) n (flat 1 icell l)) (hsz : n ≤ 1000000) :
    Calls Tryz.prog 69 #[.slice (some ⟨g, 0, none⟩) n c] w fun e w' => e = .returned (.tuple #[]) ∧ w'.ownsRow base 3 1 (.slice (some ⟨g, 0, none⟩) n c) n (flat 1 icell (M.isort l)) ∧ w.grownBy w' (some g) := by
  have hlen : n = l.length := by
    have := h.1
    rw [flat_length] at this
    omega
  subst hlen
  rw [flat_ints] at h
  rcases h.2 with ⟨h0, _⟩ | ⟨g', cap, cur, hv, hb, hg, hnc, hcm, hcs, htk⟩
  · cases h0
  · cases hv
    have htk2 : cur.toList.take l.length = l.map (Value.int .i64) := by rw [Nat.mul_one] at htk; exact htk
    refine (AnyM.slices_Sort_int sortI g 0 c l w (holds_of_blockI hg htk2) (Array.getElem?_eq_some_iff.1 hg).1 (by omega)).mono ?_
    rintro e w' ⟨rfl, q, os, rfl⟩
    refine ⟨rfl, ?_, grownBy_sortedI _⟩
    rw [flat_ints]
    exact ownsRow_sortedI (ss := l) (ts := M.isort l) (M.isort_len l) hb hg hnc hcm hcs
theorem sortP_nil (c : Nat) (w : World) : Calls Tryz.prog 69 #[.slice none 0 c] w fun e w' => e = .returned (.tuple #[]) ∧ w' = w := AnyM.slices_Sort_int_none sortI none c w
theorem compP_own {base g c n : Nat} {l : List Int} {w : World} (h : w.ownsRow base 3 1 (.slice (some ⟨g, 0, none⟩) n c) n (flat 1 icell l)) (hsz : n ≤ 1000000) :
    Calls Tryz.prog 83 #[.slice (some ⟨g, 0, none⟩) n c] w fun e w' => e = .returned (.slice (some ⟨g, 0, none⟩) (Lib.compact l).length c) ∧ Sl 1 icell w' w'.heap.size (some ⟨g, 0, none⟩) (Lib.compact l) ∧ w.grownBy w' (some g) := by
  have hlen : n = l.length := by
    have := h.1
    rw [flat_length] at this
    omega
  subst hlen
  rw [flat_ints] at h
  rcases h.2 with ⟨h0, _⟩ | ⟨g', cap, cur, hv, hb, hg, hnc, hcm, hcs, htk⟩
  · cases h0
  · cases hv
    have htk2 : cur.toList.take l.length = l.map (Value.int .i64) := by rw [Nat.mul_one] at htk; exact htk
    refine (Any.slices_Compact_int compI g 0 c l w (holds_of_blockI hg htk2) (by omega) hnc).mono ?_
    rintro e w' ⟨rfl, q, rfl⟩
    have hle := Lib.compact_length_le l
    have ho := ownsRow_sortedI (n := q) (os := #[]) (ss := l) (ts := Lib.compact l ++ List.replicate (l.length - (Lib.compact l).length) 0) (by simp; omega) hb hg hnc hcm hcs
    have hgr := grownBy_sortedI (w := w) (g := g) (n := q) (os := #[]) (Lib.compact l ++ List.replicate (l.length - (Lib.compact l).length) 0).toArray
    rw [show ∀ v : World, grow v #[] = v from fun v => by simp [grow]] at ho hgr
    rw [← flat_ints] at ho
    refine ⟨rfl, fun k hk => ?_, hgr⟩
    obtain ⟨ad, e, hb2, hc2⟩ := Sl.of_own (by decide) ho k (by simp; omega)
    refine ⟨ad, e, hb2, fun j hj => ?_⟩
    rw [hc2 j hj, List.getElem_append_left hk]
theorem compP_nil (c : Nat) (w : World) : Calls Tryz.prog 83 #[.slice none 0 c] w fun e w' => e = .returned (.slice none 0 c) ∧ w' = w := Any.slices_Compact_int_empty compI none c w
theorem sortP_any {base n : Nat} {v : Value} {l : List Int} {w : World} (h : w.ownsRow base 3 1 v n (flat 1 icell l)) (hsz : n ≤ 1000000) :
    Calls Tryz.prog 69 #[v] w fun e w' => e = .returned (.tuple #[]) ∧ w'.ownsRow base 3 1 v n (flat 1 icell (M.isort l)) ∧ w.grownBy w' v.ownBlock := by
  rcases h.2 with ⟨rfl, h0⟩ | ⟨g, cap, cur, rfl, _⟩
  · have hl : l = [] := by
      have := h.1
      rw [flat_length] at this
      exact List.eq_nil_of_length_eq_zero (by omega)
    subst hl
    refine (sortP_nil 0 w).mono ?_
    rintro e w' ⟨rfl, rfl⟩
    exact ⟨rfl, by rw [show M.isort [] = [] by unfold M.isort; simp]; exact h, World.grownBy.refl _ _⟩
  · exact sortP_own h hsz
theorem compP_any {base n : Nat} {v : Value} {l : List Int} {w : World} (h : w.ownsRow base 3 1 v n (flat 1 icell l)) (hsz : n ≤ 1000000) :
    Calls Tryz.prog 83 #[v] w fun e w' => ∃ A c, e = .returned (.slice A (Lib.compact l).length c) ∧ Sl 1 icell w' w'.heap.size A (Lib.compact l) ∧ w.grownBy w' v.ownBlock := by
  rcases h.2 with ⟨rfl, h0⟩ | ⟨g, cap, cur, rfl, _⟩
  · have hl : l = [] := by
      have := h.1
      rw [flat_length] at this
      exact List.eq_nil_of_length_eq_zero (by omega)
    subst hl
    refine (compP_nil 0 w).mono ?_
    rintro e w' ⟨rfl, rfl⟩
    exact ⟨none, 0, rfl, Sl.nil_, World.grownBy.refl _ _⟩
  · refine (compP_own h hsz).mono ?_
    rintro e w' ⟨rfl, h1, h2⟩
    exact ⟨_, _, rfl, h1, h2⟩
end Go.Proofs.YtpkepgcmifdpfaaGreatDoor
end
