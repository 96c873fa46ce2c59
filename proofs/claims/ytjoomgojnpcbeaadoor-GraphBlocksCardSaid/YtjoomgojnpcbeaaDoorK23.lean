/- A bundle of texts: GhS. -/
import Derived.Test.YtjoomgojnpcbeaaDoorK12
import Derived.Test.YtjoomgojnpcbeaaDoorK02
import Derived.Test.YtjoomgojnpcbeaaDoorK20
import Derived.Test.YtjoomgojnpcbeaaDoorK21
import Derived.Test.YtjoomgojnpcbeaaDoorK22
import Derived.Test.YtjoomgojnpcbeaaDoorK07
section
namespace Go.Proofs.YtjoomgojnpcbeaaDoor
open Go Go.RowKit Go.Sort Go.Proofs Gh
set_option maxRecDepth 100000
theorem isNaN_ok (x : Int) (w : World) : Calls Tryd.prog 93 #[.int .i64 x] w fun e w' => e = .returned (.bool false) ∧ w = w' := by
  go_enter Tryd.func93, Tryd.ntmps93
  go_wp2_with fail
  go_ret
  exact ⟨by simp, rfl⟩
set_option maxHeartbeats 1000000 in
theorem cmpI_ok (x y : Int) (w : World) : Calls Tryd.prog 70 #[.int .i64 x, .int .i64 y] w fun e w' => e = .returned (.int .i64 (Lib.compareInt x y)) ∧ w = w' := by
  go_enter Tryd.func70, Tryd.ntmps70
  go_wp2_with (go_at_call 93; refine (isNaN_ok _ _).mono ?_; rintro e w' ⟨rfl, rfl⟩)
  all_goals (go_ret; refine ⟨?_, rfl⟩; unfold Lib.compareInt; (repeat' split) <;> first | rfl | (exfalso; omega))
section
variable {α : Type} [Inhabited α] {enc : α → Value}
theorem heap_sorted1 {w : World} {g n : Nat} {os : Array Obj} {cur : Array Value} {e : TypeId} {fr : Nat × Nat} (d : Array α) (hb : w.heap[g]? = some (.cells cur e fr)) :
    (grow (putRow enc (Sort.ahead w n) g 0 d) os).heap[g]? = some (.cells (putCells enc 0 d cur) e fr) := by
  have hg : g < w.heap.size := (Array.getElem?_eq_some_iff.1 hb).1
  rw [heap_grow_old _ _ (by simpa using hg)]
  simp [putRow, mapBlock, Sort.ahead, Array.getElem?_modify, hb, onCells]
theorem grownBy_sorted1 {w : World} {g n : Nat} {os : Array Obj} (d : Array α) : w.grownBy (grow (putRow enc (Sort.ahead w n) g 0 d) os) (some g) := by
  refine ⟨rfl, rfl, rfl, by simp, fun k hk hne => ?_⟩
  rw [heap_grow_old _ _ (by simpa using hk)]
  have : g ≠ k := fun e => hne (by rw [e])
  simp [putRow, mapBlock, Sort.ahead, Array.getElem?_modify, this]
theorem take_putCells1 (cur : Array Value) (ts : List α) (h : ts.length ≤ cur.size) : (putCells enc 0 ts.toArray cur).toList.take ts.length = ts.map enc := by
  apply List.ext_getElem?
  intro j
  by_cases hj : j < ts.length
  · rw [List.getElem?_take_of_lt hj, Array.getElem?_toList]
    simp [putCells, hj, show j < cur.size by omega]
  · rw [List.getElem?_take_eq_none (by omega), List.getElem?_eq_none (by simp; omega)]
end
def slc0 : SLc := ⟨none, 0, []⟩
def elt (ls : List SLc) (i : Nat) : SLc := ls.getD i slc0
theorem elt_at {ls : List SLc} {i : Nat} (hi : i < ls.length) : elt ls i = ls[i] := by unfold elt; rw [List.getD_eq_getElem?_getD, List.getElem?_eq_getElem hi]; rfl
def eL (ls : List SLc) {n : Nat} (i : Fin (n + 1)) : Value := slcell (elt ls i) 0
def cfL (ls : List SLc) {n : Nat} (i j : Fin (n + 1)) : Int := lexC (elt ls i).xs (elt ls j).xs
theorem ltL {ls : List SLc} {n : Nat} {i j : Fin (n + 1)} : ltOf (cfL ls) i j = true ↔ lexC (elt ls i).xs (elt ls j).xs < 0 := by
  unfold ltOf cfL; rw [decide_eq_true_eq]
theorem ltLf {ls : List SLc} {n : Nat} {i j : Fin (n + 1)} : ltOf (cfL ls) i j = false ↔ lexC (elt ls j).xs (elt ls i).xs ≤ 0 := by
  rw [Bool.eq_false_iff, ne_eq, ltL, lexC_swap (elt ls i.1).xs]; omega
theorem swoL (ls : List SLc) (n : Nat) : SWO (ltOf (cfL ls) : Fin (n + 1) → Fin (n + 1) → Bool) := by
  refine ⟨fun x => ?_, fun x y z h1 h2 => ?_, fun x y z h1 h2 => ?_⟩
  · rw [ltLf, lexC_refl]; omega
  · rw [ltL] at *; exact lexC_trans h1 h2
  · rw [ltLf] at *; exact lexC_le_trans h2 h1
theorem fin_map (ls : List SLc) {n : Nat} (hn : ls.length = n + 1) : (List.finRange (n + 1)).map (fun (i : Fin (n + 1)) => elt ls i.1) = ls := by
  apply List.ext_getElem
  · simp [hn]
  · intro i h1 h2
    rw [List.getElem_map, List.getElem_finRange]
    exact elt_at h2
theorem flat_one_map (ls : List SLc) : flat 1 slcell ls = ls.map fun s => slcell s 0 := by
  induction ls with
  | nil => rfl
  | cons s ls ih =>
    have e : flat 1 slcell (s :: ls) = slcell s 0 :: flat 1 slcell ls := by simp [flat]
    rw [e, ih]
    rfl
theorem lexC_at : ∀ {a b : List Int} {k : Nat} (h1 : k < a.length) (h2 : k < b.length), (∀ j (h1 : j < a.length) (h2 : j < b.length), j < k → a[j] = b[j]) → a[k] ≠ b[k] → lexC a b = Lib.compareInt a[k] b[k]
  | [], _, _, h, _, _, _ => absurd h (by simp)
  | _ :: _, [], _, _, h, _, _ => absurd h (by simp)
  | x :: a, y :: b, 0, _, _, _, hne => by
    simp only [List.getElem_cons_zero] at hne ⊢
    unfold lexC Lib.compareInt
    (repeat' split) <;> first | rfl | (exfalso; omega)
  | x :: a, y :: b, k + 1, h1, h2, he, hne => by
    have h0 := he 0 (by simp) (by simp) (by omega)
    simp only [List.getElem_cons_zero] at h0
    unfold lexC
    rw [if_neg (by omega), if_neg (by omega)]
    simp only [List.getElem_cons_succ] at hne ⊢
    refine lexC_at (by simpa using h1) (by simpa using h2) (fun j h3 h4 h5 => ?_) hne
    have := he (j + 1) (by simpa using h3) (by simpa using h4) (by omega)
    simpa using this
theorem lexC_long : ∀ {a b : List Int}, b.length ≤ a.length → (∀ j (h1 : j < a.length) (h2 : j < b.length), a[j] = b[j]) → lexC a b = if a.length = b.length then 0 else 1
  | [], [], _, _ => rfl
  | [], _ :: _, h, _ => by simp at h
  | _ :: _, [], _, _ => by unfold lexC; simp
  | x :: a, y :: b, h, he => by
    have h0 := he 0 (by simp) (by simp)
    simp only [List.getElem_cons_zero] at h0
    unfold lexC
    rw [if_neg (by omega), if_neg (by omega), lexC_long (by simpa using h) (fun j h3 h4 => by have := he (j + 1) (by simpa using h3) (by simpa using h4); simpa using this)]
    simp
theorem lexC_short {a b : List Int} (h : a.length < b.length) (he : ∀ j (h1 : j < a.length) (h2 : j < b.length), a[j] = b[j]) : lexC a b = -1 := by
  rw [lexC_swap b a, lexC_long (by omega) (fun j h1 h2 => (he j h2 h1).symm), if_neg (by omega)]
set_option maxHeartbeats 16000000 in
theorem slCompare_ok (A B : Option Addr) (ac bc : Nat) (xs ys : List Int) (w : World) (hA : Sl 1 icell w w.heap.size A xs) (hB : Sl 1 icell w w.heap.size B ys) (hx : xs.length ≤ 1000) :
    Calls Tryd.prog 49 #[.slice A xs.length ac, .slice B ys.length bc] w fun e w' => e = .returned (.int .i64 (lexC xs ys)) ∧ ∃ n, w' = w.drewN n := by
  have HA := Lib.hid hA
  have HB := Lib.hid hB
  clear hA hB
  go_enter Tryd.func49, Tryd.ntmps49
  go_wp2_with fail
  go_loopw [11] (fun i wr => ∃ k : Nat, k ≤ xs.length ∧ i = .int .i64 k ∧ w = wr ∧ Hid (k ≤ ys.length ∧ ∀ j (h1 : j < xs.length) (h2 : j < ys.length), j < k → xs[j] = ys[j])) (fun i _ => xs.length - (intOf i).toNat)
  case atStart => exact ⟨0, Nat.zero_le _, rfl, rfl, Lib.hid ⟨Nat.zero_le _, fun j _ _ h => absurd h (by omega)⟩⟩
  case round =>
    obtain ⟨k, hk, rfl, rfl, HE⟩ := hrel
    by_cases hlt : k < xs.length
    · obtain ⟨la, hla, hlb, a0⟩ := HA.out.int_at hlt
      have x0 : (0 : Int) ≤ (k : Int) := by omega
      have x1 : (k : Int) < (xs.length : Int) := by omega
      have q0 : decide ((k : Int) < (xs.length : Int)) = true := decide_eq_true x1
      subst hla
      by_cases hlt2 : k < ys.length
      · obtain ⟨lb, hlb2, hlb3, b0⟩ := HB.out.int_at hlt2
        have x2 : (k : Int) < (ys.length : Int) := by omega
        have q1 : decide ((ys.length : Int) ≤ (k : Int)) = false := decide_eq_false (by omega)
        subst hlb2
        have kC := cmpI_ok xs[k] ys[k] w
        by_cases hq : Lib.compareInt xs[k] ys[k] = 0
        · have he := M.cI_zero.1 hq
          have HE2 : Hid (k + 1 ≤ ys.length ∧ ∀ j (h1 : j < xs.length) (h2 : j < ys.length), j < k + 1 → xs[j] = ys[j]) := Lib.hid ⟨hlt2, fun j h1 h2 h3 => by
            by_cases e : j = k
            · subst e; exact he
            · exact HE.out.2 j h1 h2 (by omega)⟩
          rw [hq] at kC
          clear hq he HE
          generalize xs[k] = x at *
          generalize ys[k] = y at *
          go_wp2_with fail
          refine kC.mono ?_
          rintro e w1 ⟨rfl, rfl⟩
          go_wp2_with fail
          go_roundw
          case rel => exact ⟨k + 1, hlt, by go_num, by trivial, HE2⟩
          case measure => simp [intOf]; omega
        · have hne : xs[k] ≠ ys[k] := fun e => hq (M.cI_zero.2 e)
          have HL : Hid (lexC xs ys = Lib.compareInt xs[k] ys[k]) := Lib.hid (lexC_at hlt hlt2 HE.out.2 hne)
          have q2 : (Lib.compareInt xs[k] ys[k] != 0) = true := by simpa using hq
          clear hq hne HE
          generalize xs[k] = x at *
          generalize ys[k] = y at *
          go_wp2_with fail
          refine kC.mono ?_
          rintro e w1 ⟨rfl, rfl⟩
          go_wp2_with fail
          go_ret
          exact ⟨by rw [HL.out]; rfl, 0, rfl⟩
      · have q1 : decide ((ys.length : Int) ≤ (k : Int)) = true := decide_eq_true (by omega)
        have HL : Hid (lexC xs ys = 1) := Lib.hid (by
          rw [lexC_long (by omega) (fun j h1 h2 => HE.out.2 j h1 h2 (by omega)), if_neg (by omega)])
        go_wp2_with fail
        go_ret
        exact ⟨by rw [HL.out]; rfl, 0, rfl⟩
    · obtain rfl : k = xs.length := by omega
      have q0 : decide ((xs.length : Int) < (xs.length : Int)) = false := decide_eq_false (by omega)
      by_cases hl : xs.length < ys.length
      · have q1 : decide ((xs.length : Int) < (ys.length : Int)) = true := decide_eq_true (by omega)
        have HL : Hid (lexC xs ys = -1) := Lib.hid (lexC_short hl (fun j h1 h2 => HE.out.2 j h1 h2 h1))
        go_wp2_with fail
        go_ret
        exact ⟨by rw [HL.out]; rfl, 0, rfl⟩
      · have q1 : decide ((xs.length : Int) < (ys.length : Int)) = false := decide_eq_false (by omega)
        have HL : Hid (lexC xs ys = 0) := Lib.hid (by
          have := HE.out.1
          rw [lexC_long (by omega) (fun j h1 h2 => HE.out.2 j h1 h2 h1), if_pos (by omega)])
        go_wp2_with fail
        go_ret
        exact ⟨by rw [HL.out]; rfl, 0, rfl⟩
set_option maxHeartbeats 8000000 in
theorem sortX_ok (A : Option Addr) (c base : Nat) (ls : List SLc) (w : World) (h : LO w base (.slice A ls.length c) ls) (hx : ∀ s ∈ ls, s.xs.length ≤ 1000) (hnd : (ls.map (·.xs)).Nodup) (hlen : ls.length ≤ 512) :
    Calls Tryd.prog 48 #[.slice A ls.length c, .func (.func 49) #[] #[]] w fun e w' => e = .returned (.tuple #[]) ∧ ∃ ls' : List SLc, LO w' base (.slice A ls'.length c) ls' ∧ ls'.Perm ls ∧ ls'.Pairwise (fun a b => lexC a.xs b.xs ≤ 0) ∧ Below base w w' := by
  have ho := h.outer
  rcases hl : ls.length with _ | n
  · obtain rfl := List.length_eq_zero_iff.1 hl
    refine (AnyF.slices_SortFunc_none (ρ := sortA_ren) { sortA with } A c _ w).mono ?_
    rintro e w' ⟨rfl, rfl⟩
    exact ⟨rfl, [], h, List.Perm.refl _, List.Pairwise.nil, Below.refl _ _⟩
  · have hel : ∀ i : Fin (n + 1), elt ls i.1 ∈ ls := fun i => by rw [elt_at (by omega)]; exact List.getElem_mem _
    rcases ho.2 with ⟨_, h0⟩ | ⟨g, cap, cur, hv, hb, hg, hnc, hcm, hcs, htk⟩
    · omega
    · simp only [Value.slice.injEq] at hv
      obtain ⟨rfl, -, rfl⟩ := hv
      have hgs : g < w.heap.size := (Array.getElem?_eq_some_iff.1 hg).1
      have hkey := Any.slices_SortFunc_total sortA (eL ls (n := n)) (fun _ => rfl) (cfL ls) (swoL ls n) 49 #[] g 0 c (List.finRange (n + 1)).toArray w (enters_of Tryd.func49 (by kernel_rfl) rfl) ?_ ?_ hgs (by simp; omega) ?_
      · rw [List.size_toArray, List.length_finRange] at hkey
        refine hkey.mono ?_
        rintro e w' ⟨rfl, q, os, rfl⟩
        generalize hS : ((List.finRange (n + 1)).toArray.toList.mergeSort fun x y => !(ltOf (cfL ls)) y x) = ss
        have hp : ss.Perm (List.finRange (n + 1)) := by rw [← hS]; exact List.mergeSort_perm _ _
        have hpl : (ss.map fun i => elt ls i.1).Perm ls := by
          have := hp.map (fun i : Fin (n + 1) => elt ls i.1)
          rwa [fin_map ls hl] at this
        have hsl : ss.length = n + 1 := by rw [hp.length_eq, List.length_finRange]
        have e1 : flat 1 slcell (ss.map fun i => elt ls i.1) = ss.map (eL ls) := by rw [flat_one_map, List.map_map]; rfl
        have hgr := grownBy_sorted1 (w := w) (g := g) (n := q) (os := os) (enc := eL ls) ss.toArray
        have tk : ∀ k, k = ss.length → k ≤ cur.size → (putCells (eL ls) 0 ss.toArray cur).toList.take k = ss.map (eL ls) := fun k hk hk2 => by subst hk; exact take_putCells1 cur ss hk2
        refine ⟨rfl, ss.map fun i => elt ls i.1, ⟨?_, fun s hs => ?_⟩, hpl, ?_, ?_⟩
        · rw [List.length_map, hsl]
          refine ⟨by rw [flat_length, List.length_map, hsl], .inr ⟨g, c, _, rfl, hb, heap_sorted1 _ hg, by rw [hl] at hnc; exact hnc, hcm, by simp [putCells, hcs], ?_⟩⟩
          rw [e1, Nat.mul_one]
          exact tk _ hsl.symm (by rw [hcs]; rw [hl] at hnc; simpa using hnc)
        · have := h.inner s (hpl.mem_iff.1 hs)
          exact this.kept hgr (own_ne this ho (by decide))
        · refine List.pairwise_map.2 ?_
          have hso : ss.Pairwise fun x y => (!(ltOf (cfL ls)) y x) = true := by
            rw [← hS]
            refine List.pairwise_mergeSort ?_ ?_ _
            · intro a b cc h1 h2
              simp only [Bool.not_eq_true', ltLf] at *
              exact lexC_le_trans h1 h2
            · intro a b
              simp only [Bool.or_eq_true, Bool.not_eq_true', ltLf]
              rw [lexC_swap (elt ls a.1).xs]
              omega
          refine hso.imp ?_
          intro a b h1
          simp only [Bool.not_eq_true', ltLf] at h1
          exact h1
        · exact (Below.refl base w).grown hgr (by omega) (fun k e => by cases e; exact hb)
      · intro m os dk _ x y
        have hgr := grownBy_sorted1 (w := w) (g := g) (n := m) (os := os) (enc := eL ls) dk
        have hcell : ∀ i : Fin (n + 1), Sl 1 icell (sortWorld (eL ls) w g 0 m dk os) (sortWorld (eL ls) w g 0 m dk os).heap.size (elt ls i.1).A (elt ls i.1).xs := fun i => by
          have hi := h.inner _ (hel i)
          exact Sl.of_own (by decide) (hi.kept hgr (own_ne hi ho (by decide)))
        refine (slCompare_ok (elt ls x.1).A (elt ls y.1).A (elt ls x.1).c (elt ls y.1).c _ _ _ (hcell x) (hcell y) (hx _ (hel x))).mono ?_
        rintro e w' ⟨rfl, q, rfl⟩
        exact ⟨rfl, q, #[], by rw [grow_empty]⟩
      · intro j hj
        have hj' : j < n + 1 := by simpa using hj
        have := own_at (size := 1) (cell := slcell) ho (k := j) (j := 0) (by omega) (by decide)
        simp only [Nat.mul_one, Nat.add_zero] at this
        refine ⟨?_, ?_⟩
        · rw [Nat.zero_add, this.1, getElem!_pos (List.finRange (n + 1)).toArray j hj]
          simp [eL, elt_at, hl, hj']
        · rw [Nat.zero_add]; exact this.2
      · intro x y h1 h2
        rw [ltLf] at h1 h2
        have e : (elt ls x.1).xs = (elt ls y.1).xs := lexC_zero (by rw [lexC_swap (elt ls x.1).xs] at h1; omega)
        have hx3 : x.1 < ls.length := by omega
        have hy3 : y.1 < ls.length := by omega
        rw [elt_at hx3, elt_at hy3] at e
        have h1' : x.1 < (ls.map (·.xs)).length := by simpa using hx3
        have h2' : y.1 < (ls.map (·.xs)).length := by simpa using hy3
        have e2 : (ls.map (·.xs))[x.1]'h1' = (ls.map (·.xs))[y.1]'h2' := by simpa using e
        exact Fin.ext ((List.getElem_inj hnd).1 e2)
end Go.Proofs.YtjoomgojnpcbeaaDoor
end
