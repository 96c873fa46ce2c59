/- A bundle of texts: Gr5, Gr6. -/
import Derived.Test.YtpkepgcmifdpfaaGreatDoorR19
import Derived.Test.YtpkepgcmifdpfaaGreatDoorR22
import Derived.Test.YtpkepgcmifdpfaaGreatDoorR23
section
namespace Go.Proofs.YtpkepgcmifdpfaaGreatDoor
open Go Go.RowKit Go.Sort Go.Proofs
set_option maxRecDepth 100000
section
variable {α : Type} [Inhabited α] {enc : α → Value}
theorem heap_sorted1 {w : World} {g n : Nat} {os : Array Obj} {cur : Array Value} {e : TypeId} {fr : Nat × Nat} (d : Array α) (hb : w.heap[g]? = some (.cells cur e fr)) :
    (grow (putRow enc (Sort.ahead w n) g 0 d) os).heap[g]? = some (.cells (putCells enc 0 d cur) e fr) := by
  have hg : g < w.heap.size := (Array.getElem?_eq_some_iff.1 hb).1
  rw [heap_grow_old _ _ (by simpa using hg)]
  simp [putRow, mapBlock, Sort.ahead, Array.getElem?_modify, hb, onCells]
theorem grownBy_sorted1 {w : World} {g n : Nat} {os : Array Obj} (d : Array α) : w.grownBy (grow (putRow enc (Sort.ahead w n) g 0 d) os) (some g) := by
  refine ⟨rfl, rfl, rfl, by simp, fun k hk hne => ?_⟩
  rw [heap_grow_old _ _ (by simpa using hk)]
  have : g ≠ k := fun e => hne (by rw [e])
  simp [putRow, mapBlock, Sort.ahead, Array.getElem?_modify, this]
theorem take_putCells1 (cur : Array Value) (ts : List α) (h : ts.length ≤ cur.size) : (putCells enc 0 ts.toArray cur).toList.take ts.length = ts.map enc := by
  apply List.ext_getElem?
  intro j
  by_cases hj : j < ts.length
  · rw [List.getElem?_take_of_lt hj, Array.getElem?_toList]
    simp [putCells, hj, show j < cur.size by omega]
  · rw [List.getElem?_take_eq_none (by omega), List.getElem?_eq_none (by simp; omega)]
end
def slc0 : SLc := ⟨none, 0, []⟩
def hd (s : SLc) : Int := s.xs.headD 0
def elt (ls : List SLc) (i : Nat) : SLc := ls.getD i slc0
theorem elt_at {ls : List SLc} {i : Nat} (hi : i < ls.length) : elt ls i = ls[i] := by unfold elt; rw [List.getD_eq_getElem?_getD, List.getElem?_eq_getElem hi]; rfl
def eL (ls : List SLc) {n : Nat} (i : Fin (n + 1)) : Value := slcell (elt ls i) 0
def cfL (ls : List SLc) {n : Nat} (i j : Fin (n + 1)) : Int := hd (elt ls i) - hd (elt ls j)
theorem ltL {ls : List SLc} {n : Nat} {i j : Fin (n + 1)} : ltOf (cfL ls) i j = true ↔ hd (elt ls i) < hd (elt ls j) := by
  unfold ltOf cfL; rw [decide_eq_true_eq]; omega
theorem ltLf {ls : List SLc} {n : Nat} {i j : Fin (n + 1)} : ltOf (cfL ls) i j = false ↔ hd (elt ls j) ≤ hd (elt ls i) := by
  rw [Bool.eq_false_iff, ne_eq, ltL]; omega
theorem swoL (ls : List SLc) (n : Nat) : SWO (ltOf (cfL ls) : Fin (n + 1) → Fin (n + 1) → Bool) := by
  refine ⟨fun x => ?_, fun x y z h1 h2 => ?_, fun x y z h1 h2 => ?_⟩
  · rw [ltLf]; omega
  · rw [ltL] at *; omega
  · rw [ltLf] at *; omega
theorem fin_map (ls : List SLc) {n : Nat} (hn : ls.length = n + 1) : (List.finRange (n + 1)).map (fun (i : Fin (n + 1)) => elt ls i.1) = ls := by
  apply List.ext_getElem
  · simp [hn]
  · intro i h1 h2
    rw [List.getElem_map, List.getElem_finRange]
    exact elt_at h2
theorem flat_one_map (ls : List SLc) : flat 1 slcell ls = ls.map fun s => slcell s 0 := by
  induction ls with
  | nil => rfl
  | cons s ls ih =>
    have e : flat 1 slcell (s :: ls) = slcell s 0 :: flat 1 slcell ls := by simp [flat]
    rw [e, ih]
    rfl
set_option maxHeartbeats 4000000 in
theorem cmpFirst_ok (A B : Option Addr) (ac bc na nb : Nat) (x y : Int) (w : World) (ha : ∃ ad, A = some ad ∧ w.cell? ad = some (.int .i64 x)) (hb : ∃ ad, B = some ad ∧ w.cell? ad = some (.int .i64 y)) (hx : 0 ≤ x ∧ x ≤ 511) (hy : 0 ≤ y ∧ y ≤ 511) (hna : 0 < na) (hnb : 0 < nb) :
    Calls Tryz.prog 139 #[.slice A na ac, .slice B nb bc] w fun e w' => e = .returned (.int .i64 (x - y)) ∧ ∃ n, w' = w.drewN n := by
  obtain ⟨ad, rfl, a0⟩ := ha
  obtain ⟨bd, rfl, b0⟩ := hb
  have z0 : (0 : Int) < (na : Int) := by omega
  have z1 : (0 : Int) < (nb : Int) := by omega
  have e0 : ad.add (0 * 1) = ad := by unfold Addr.add; simp
  have e1 : bd.add (0 * 1) = bd := by unfold Addr.add; simp
  have e2 : ad.add 0 = ad := by unfold Addr.add; simp
  have e3 : bd.add 0 = bd := by unfold Addr.add; simp
  go_enter Tryz.func139, Tryz.ntmps139
  go_wp2_with fail
  go_quiet (fail)
  go_wp2_with fail
  go_ret
  exact ⟨rfl, _, rfl⟩
theorem head_at : ∀ (xs : List Int) (h : 0 < xs.length), xs[0] = xs.headD 0
  | [], h => absurd h (by simp)
  | a :: _, _ => rfl
theorem sortL_ok (A : Option Addr) (c base : Nat) (ls : List SLc) (w : World) (h : LO w base (.slice A ls.length c) ls) (hx : ∀ s ∈ ls, 0 < s.xs.length ∧ 0 ≤ hd s ∧ hd s ≤ 511) (hnd : (ls.map hd).Nodup) (hlen : ls.length ≤ 512) :
    Calls Tryz.prog 138 #[.slice A ls.length c, .func (.func 139) #[] #[]] w fun e w' => e = .returned (.tuple #[]) ∧ ∃ ls' : List SLc, LO w' base (.slice A ls'.length c) ls' ∧ ls'.Perm ls ∧ ls'.Pairwise (fun a b => hd a < hd b) ∧ Below base w w' := by
  have ho := h.outer
  rcases hl : ls.length with _ | n
  · obtain rfl := List.length_eq_zero_iff.1 hl
    refine (AnyF.slices_SortFunc_none (ρ := sortA_ren) { sortA with } A c _ w).mono ?_
    rintro e w' ⟨rfl, rfl⟩
    exact ⟨rfl, [], h, List.Perm.refl _, List.Pairwise.nil, Below.refl _ _⟩
  · have hel : ∀ i : Fin (n + 1), elt ls i.1 ∈ ls := fun i => by rw [elt_at (by omega)]; exact List.getElem_mem _
    rcases ho.2 with ⟨_, h0⟩ | ⟨g, cap, cur, hv, hb, hg, hnc, hcm, hcs, htk⟩
    · omega
    · simp only [Value.slice.injEq] at hv
      obtain ⟨rfl, -, rfl⟩ := hv
      have hgs : g < w.heap.size := (Array.getElem?_eq_some_iff.1 hg).1
      have hkey := Any.slices_SortFunc_total sortA (eL ls (n := n)) (fun _ => rfl) (cfL ls) (swoL ls n) 139 #[] g 0 c (List.finRange (n + 1)).toArray w (enters_of Tryz.func139 (by kernel_rfl) rfl) ?_ ?_ hgs (by simp; omega) ?_
      · rw [List.size_toArray, List.length_finRange] at hkey
        refine hkey.mono ?_
        rintro e w' ⟨rfl, q, os, rfl⟩
        generalize hS : ((List.finRange (n + 1)).toArray.toList.mergeSort fun x y => !(ltOf (cfL ls)) y x) = ss
        have hp : ss.Perm (List.finRange (n + 1)) := by rw [← hS]; exact List.mergeSort_perm _ _
        have hpl : (ss.map fun i => elt ls i.1).Perm ls := by
          have := hp.map (fun i : Fin (n + 1) => elt ls i.1)
          rwa [fin_map ls hl] at this
        have hsl : ss.length = n + 1 := by rw [hp.length_eq, List.length_finRange]
        have e1 : flat 1 slcell (ss.map fun i => elt ls i.1) = ss.map (eL ls) := by rw [flat_one_map, List.map_map]; rfl
        have hgr := grownBy_sorted1 (w := w) (g := g) (n := q) (os := os) (enc := eL ls) ss.toArray
        have tk : ∀ k, k = ss.length → k ≤ cur.size → (putCells (eL ls) 0 ss.toArray cur).toList.take k = ss.map (eL ls) := fun k hk hk2 => by subst hk; exact take_putCells1 cur ss hk2
        refine ⟨rfl, ss.map fun i => elt ls i.1, ⟨?_, fun s hs => ?_⟩, hpl, ?_, ?_⟩
        · rw [List.length_map, hsl]
          refine ⟨by rw [flat_length, List.length_map, hsl], .inr ⟨g, c, _, rfl, hb, heap_sorted1 _ hg, by rw [hl] at hnc; exact hnc, hcm, by simp [putCells, hcs], ?_⟩⟩
          rw [e1, Nat.mul_one]
          exact tk _ hsl.symm (by rw [hcs]; rw [hl] at hnc; simpa using hnc)
        · have := h.inner s (hpl.mem_iff.1 hs)
          exact this.kept hgr (own_ne this ho (by decide))
        · refine List.pairwise_map.2 ?_
          have hso : ss.Pairwise fun x y => (!(ltOf (cfL ls)) y x) = true := by
            rw [← hS]
            refine List.pairwise_mergeSort ?_ ?_ _
            · intro a b cc h1 h2
              simp only [Bool.not_eq_true', ltLf] at *
              omega
            · intro a b
              simp only [Bool.or_eq_true, Bool.not_eq_true', ltLf]
              omega
          have hnd2 : ss.Pairwise fun x y => hd (elt ls x.1) ≠ hd (elt ls y.1) := by
            have := (hpl.map hd).nodup_iff.2 hnd
            rw [List.map_map] at this
            exact List.pairwise_map.1 this
          refine (hso.and hnd2).imp ?_
          rintro a b ⟨h1, h2⟩
          simp only [Bool.not_eq_true', ltLf] at h1
          omega
        · exact (Below.refl base w).grown hgr (by omega) (fun k e => by cases e; exact hb)
      · intro m os dk _ x y
        have hgr := grownBy_sorted1 (w := w) (g := g) (n := m) (os := os) (enc := eL ls) dk
        have hx1 := hx _ (hel x)
        have hy1 := hx _ (hel y)
        have hcell : ∀ i : Fin (n + 1), ∃ ad, (elt ls i.1).A = some ad ∧ (sortWorld (eL ls) w g 0 m dk os).cell? ad = some (.int .i64 (hd (elt ls i.1))) := fun i => by
          have hi := h.inner _ (hel i)
          have hk := hi.kept hgr (own_ne hi ho (by decide))
          have hz := (hx _ (hel i)).1
          unfold hd
          revert hk hz
          generalize elt ls i.1 = s
          intro hk hz
          rcases hk.2 with ⟨_, h0⟩ | ⟨g', cap', cur', hv, _⟩
          · omega
          · have hA : s.A = some ⟨g', 0, none⟩ := by simp only [Value.slice.injEq] at hv; exact hv.1
            rw [hA] at hk
            have := (own_at (size := 1) (cell := icell) hk (k := 0) (j := 0) hz (by decide)).1
            refine ⟨_, hA, this.trans ?_⟩
            exact congrArg some (congrArg (Value.int .i64) (head_at s.xs hz))
        refine (cmpFirst_ok (elt ls x.1).A (elt ls y.1).A (elt ls x.1).c (elt ls y.1).c _ _ _ _ _ (hcell x) (hcell y) hx1.2 hy1.2 hx1.1 hy1.1).mono ?_
        rintro e w' ⟨rfl, q, rfl⟩
        exact ⟨rfl, q, #[], by rw [grow_empty]⟩
      · intro j hj
        have hj' : j < n + 1 := by simpa using hj
        have := own_at (size := 1) (cell := slcell) ho (k := j) (j := 0) (by omega) (by decide)
        simp only [Nat.mul_one, Nat.add_zero] at this
        refine ⟨?_, ?_⟩
        · rw [Nat.zero_add, this.1, getElem!_pos (List.finRange (n + 1)).toArray j hj]
          simp [eL, elt_at, hl, hj']
        · rw [Nat.zero_add]; exact this.2
      · intro x y h1 h2
        rw [ltLf] at h1 h2
        have e : hd (elt ls x.1) = hd (elt ls y.1) := by omega
        have hx3 : x.1 < ls.length := by omega
        have hy3 : y.1 < ls.length := by omega
        rw [elt_at hx3, elt_at hy3] at e
        have h1' : x.1 < (ls.map hd).length := by simpa using hx3
        have h2' : y.1 < (ls.map hd).length := by simpa using hy3
        have e2 : (ls.map hd)[x.1]'h1' = (ls.map hd)[y.1]'h2' := by simpa using e
        exact Fin.ext ((List.getElem_inj hnd).1 e2)
end Go.Proofs.YtpkepgcmifdpfaaGreatDoor
end

section
namespace Go.Proofs.YtpkepgcmifdpfaaGreatDoor
open Go Go.RowKit Go.Sort Go.Proofs
set_option maxRecDepth 100000
namespace Dg
open Bs
theorem lead_head {R : List Nat} (h : Ok R) {v : Nat} (hv : v ∈ leads R) : ∃ t, els (scc R v) 0 = v :: t := by
  obtain ⟨hvl, hld⟩ := mem_leads.1 hv
  have hin : v ∈ els (scc R v) 0 := (mem_els (scc_fit h v)).2 ((scc_bit h hvl v).2 (Same.refl R v))
  have hlt := els_lt (scc R v)
  have hge : ∀ x ∈ els (scc R v) 0, v ≤ x := by
    intro x hx
    have hb := (mem_els (scc_fit h v)).1 hx
    by_cases hc : x < v
    · unfold lead at hld
      have := List.all_eq_true.1 hld x (List.mem_range.2 hc)
      rw [hb] at this
      cases this
    · omega
  cases hl : els (scc R v) 0 with
  | nil => rw [hl] at hin; cases hin
  | cons a t =>
    rw [hl] at hin hlt hge
    have ha := hge a (by simp)
    rcases List.mem_cons.1 hin with e | e
    · exact ⟨t, by rw [e]⟩
    · have := (List.pairwise_cons.1 hlt).1 v e
      omega
def grpl (R : List Nat) : List (List Int) := (leads R).map fun v => bsl (els (scc R v) 0)
theorem grpl_pt (R : List Nat) : (List.range (leads R).length).map (fun p => bsl (els (pt R p) 0)) = grpl R := by
  apply List.ext_getElem
  · simp [grpl]
  · intro i h1 h2
    have hi : i < (leads R).length := by simpa using h1
    simp only [grpl, List.getElem_map, List.getElem_range]
    unfold pt
    rw [lead_at hi]
theorem head_lead {R : List Nat} (h : Ok R) {v : Nat} (hv : v ∈ leads R) : (bsl (els (scc R v) 0)).headD 0 = (v : Int) := by
  obtain ⟨t, e⟩ := lead_head h hv
  rw [e]
  rfl
theorem grpl_lt {R : List Nat} (h : Ok R) : (grpl R).Pairwise fun a b => a.headD 0 < b.headD 0 := by
  unfold grpl
  refine List.pairwise_map.2 ((leads_lt R).imp_of_mem ?_)
  intro a b ha hb hlt
  rw [head_lead h ha, head_lead h hb]
  omega
theorem grpl_in {R : List Nat} (h : Ok R) {x : List Int} (hx : x ∈ grpl R) : 0 < x.length ∧ 0 ≤ x.headD 0 ∧ x.headD 0 ≤ 511 := by
  obtain ⟨v, hv, rfl⟩ := List.mem_map.1 hx
  have hl := h.len
  have := (mem_leads.1 hv).1
  refine ⟨?_, ?_⟩
  · obtain ⟨t, e⟩ := lead_head h hv
    rw [e]
    simp [bsl]
  · rw [head_lead h hv]
    omega
theorem comp_perm {R : List Nat} {ls : List SLc} {C : List Nat} (hm : ls.map (·.xs) = C.map (fun p => bsl (els (pt R p) 0))) (hC : C.Perm (List.range (leads R).length)) : (ls.map (·.xs)).Perm (grpl R) := by
  rw [hm, ← grpl_pt]
  exact hC.map _
theorem comp_hd (ls : List SLc) : ls.map hd = (ls.map (·.xs)).map fun x => x.headD 0 := by rw [List.map_map]; rfl
theorem comp_nd {R : List Nat} (h : Ok R) {ls : List SLc} (hp : (ls.map (·.xs)).Perm (grpl R)) : (ls.map hd).Nodup := by
  rw [comp_hd]
  refine (hp.map _).nodup_iff.2 ?_
  exact List.pairwise_map.2 ((grpl_lt h).imp fun h => by omega)
theorem comp_in {R : List Nat} (h : Ok R) {ls : List SLc} (hp : (ls.map (·.xs)).Perm (grpl R)) : ∀ s ∈ ls, 0 < s.xs.length ∧ 0 ≤ hd s ∧ hd s ≤ 511 :=
  fun _ hs => grpl_in h (hp.mem_iff.1 (List.mem_map_of_mem hs))
theorem comp_sorted {R : List Nat} (h : Ok R) {ls ls' : List SLc} (hp : (ls.map (·.xs)).Perm (grpl R)) (hq : ls'.Perm ls) (hs : ls'.Pairwise fun a b => hd a < hd b) : ls'.map (·.xs) = grpl R :=
  ((hq.map (·.xs)).trans hp).eq_of_pairwise (le := fun a b : List Int => a.headD 0 < b.headD 0) (fun a b _ _ h1 h2 => by omega) (List.pairwise_map.2 hs) (grpl_lt h)
end Dg
theorem dgSorted_ok (A : Option Addr) (c base : Nat) (ls : List SLc) (C R : List Nat) (w : World) (hR : Dg.Ok R) (h : LO w base (.slice A ls.length c) ls) (hm : ls.map (·.xs) = C.map (fun p => bsl (Bs.els (Dg.pt R p) 0))) (hC : C.Perm (List.range (Dg.leads R).length)) :
    Calls Tryz.prog 138 #[.slice A ls.length c, .func (.func 139) #[] #[]] w fun e w' => e = .returned (.tuple #[]) ∧ ∃ ls' : List SLc, LO w' base (.slice A ls'.length c) ls' ∧ ls'.map (·.xs) = Dg.grpl R ∧ Below base w w' := by
  have hp := Dg.comp_perm hm hC
  have hlen : ls.length = (Dg.leads R).length := by
    have := hp.length_eq
    simpa [Dg.grpl] using this
  have h1 := Dg.leads_len R
  have h2 := hR.len
  refine (sortL_ok A c base ls w h (Dg.comp_in hR hp) (Dg.comp_nd hR hp) (by omega)).mono ?_
  rintro e w' ⟨rfl, ls', hlo, hq, hs, hb⟩
  exact ⟨rfl, ls', hlo, Dg.comp_sorted hR hp hq hs, hb⟩
end Go.Proofs.YtpkepgcmifdpfaaGreatDoor
end
