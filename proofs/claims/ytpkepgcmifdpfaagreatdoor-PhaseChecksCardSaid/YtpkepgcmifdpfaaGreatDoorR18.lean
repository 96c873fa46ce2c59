/- A bundle of texts: Gr2, Tw5, Tw6, MapI, GrM, Gr3. -/
import Derived.Test.YtpkepgcmifdpfaaGreatDoorR17
import Derived.DeepKeys4
import Derived.MapViews
import Derived.WideKeyEntry
import Derived.Test.YtpkepgcmifdpfaaGreatDoorR08
import Derived.BigQuiet
section
namespace Go.Proofs.YtpkepgcmifdpfaaGreatDoor
open Go Go.RowKit Go.Maps
set_option maxRecDepth 100000
abbrev cpv (a b : Nat) : Value := .agg #[.int .i64 (a : Int), .int .i64 (b : Int)]
theorem laidOutG : laidOutB Tryz.prog = true := by kernel_rfl
theorem rowCouple : (195 : TypeId) < Tryz.prog.types.size := of_decide_eq_true (by kernel_rfl)
theorem cellsCouple : Tryz.prog.cellsOf 195 = 2 := by kernel_rfl
theorem wideCouple : (match Tryz.prog.underlying 195 with | some (.array _ _) | some (.struct _) => true | _ => false) = true := by rw [Tryz.underlying195]
theorem coupleLaw : WideMaps.KeyLaw Tryz.prog 195 := deep_law_laid laidOutG (m := 2) (by omega) rowCouple (by kernel_rfl) wideCouple
theorem coupleKeyed : Keyed Tryz.prog 195 := Keyed.of_law coupleLaw
theorem keyTypeCouple : Tryz.prog.keyType 195 = true := by kernel_rfl
theorem cellsIntG : Tryz.prog.cellsOf 3 = 1 := by kernel_rfl
def klit (a b : Nat) : Lit := .string (keyBytes [.int .i64 (a : Int), .int .i64 (b : Int)])
theorem couple_key {a b : Nat} (ha : a ≤ 1000000) (hb : b ≤ 1000000) : keyOf Tryz.prog 195 (cpv a b) = some (klit a b) := by
  obtain ⟨m, hm⟩ : ∃ m, Tryz.prog.types.size + 1 = m + 2 := by
    obtain ⟨k, hk⟩ := Nat.exists_eq_add_of_lt rowCouple
    exact ⟨_ + k, by rw [hk]⟩
  have hf : (cpv a b).formed Tryz.prog 195 = true := by simp [Value.formed, Tryz.underlying195, cellsCouple]
  have h1 : (Lit.int .i64 (a : Int)).wf = true := wf64 ⟨by omega, by omega⟩
  have h2 : (Lit.int .i64 (b : Int)).wf = true := wf64 ⟨by omega, by omega⟩
  have hk : Tryz.prog.keyLits (m + 2) 195 [.int .i64 (a : Int), .int .i64 (b : Int)] = some [.int .i64 (a : Int), .int .i64 (b : Int)] := by
    simp [Program.keyLits, Tryz.underlying195, Tryz.underlying3, cellsCouple, cellsIntG, h1, h2]
  unfold keyOf klit
  rw [Tryz.underlying195, keyTypeCouple, hf, hm]
  simp only [Bool.and_self, if_true]
  rw [show (cpv a b).cells.toList = [.int .i64 (a : Int), .int .i64 (b : Int)] from rfl, hk]
  rfl
theorem klit_inj {a b c d : Nat} (ha : a ≤ 1000000) (hb : b ≤ 1000000) (hc : c ≤ 1000000) (hd : d ≤ 1000000) (h : klit a b = klit c d) : a = c ∧ b = d := by
  have h1 := couple_key ha hb
  rw [h] at h1
  have h2 := coupleKeyed.inj h1 (couple_key hc hd)
  simp only [cpv, Value.agg.injEq, Array.mk.injEq, List.cons.injEq, Value.int.injEq, true_and, and_true] at h2
  exact ⟨by omega, by omega⟩
theorem klit_key (a b : Nat) : WideAt.IsKeyLit (klit a b) := by simp [klit, WideAt.IsKeyLit]
def rawE (v : Value) : Option (DataW Value × List MemPlace) := some (.held v, [])
theorem entry_own {P : Program} {w : World} {t k e : TypeId} {b n : Nat} {D : DataW Value} (h : w.ownsMap P k rawE b n D) (K : WideMaps.KeyLaw P k) (ht : P.underlying t = some (.map k e)) {z : Value} (hz : ∀ u : World, (zeroValue e).run P u = .ok z u) (hn : n < maxLen) {key : Value} {kl : Lit} (hkey : keyOf P k key = some kl) :
    ∃ (v0 : Value) (st : Nat) (w1 : World), (Instr.mapEntry t (.map (some b)) key).run P w = .ok (.tuple #[v0, goInt st]) w1 ∧ w.grownBy w1 (some b) ∧ w1.heap.size = w.heap.size ∧ D.atKey kl (.held z) = .held v0 ∧
      ∀ (w2 : World) (val : Value), w2.heap[b]? = w1.heap[b]? → ∃ w3, (Instr.entryStore t (.map (some b)) (goInt st) val).run P w2 = .ok () w3 ∧ w3.ownsMap P k rawE b (n + 1) (D.put kl (.held val)) ∧ w2.grownBy w3 (some b) := by
  have h0 := h
  obtain ⟨es, clock, hb, F, hs, rfl⟩ := h
  obtain ⟨v0, st, es1, clock1, hrun, hv0, hback⟩ := WideElems.entry_then_store K ht hz hb F hkey
  refine ⟨v0, st, _, hrun, ⟨rfl, rfl, rfl, by simp [ChangeMaps.setBlock], fun i _ hi => ChangeMaps.heap_setBlock_other hb _ (fun e => hi (by rw [e]))⟩, by simp [ChangeMaps.setBlock], ?_, ?_⟩
  · rcases Maps.fit_look false (Keyed.of_law K) ht (hz w) hb F hkey with ⟨-, hno, hat⟩ | ⟨e0, y, hm0, hk0, -, hR, hat, -⟩
    · rcases hv0 with ⟨e1, hm1, hk1, -⟩ | ⟨-, rfl⟩
      · exact absurd hk1 (hno e1 hm1)
      · exact hat _
    · rcases hv0 with ⟨e1, hm1, hk1, rfl⟩ | ⟨hno, -⟩
      · rw [hat]
        obtain ⟨-, -, hnd⟩ := F.stamped
        have he : e0 = e1 := by
          obtain ⟨i, hi, rfl⟩ := List.getElem_of_mem hm0
          obtain ⟨j, hj, rfl⟩ := List.getElem_of_mem hm1
          have := (List.getElem_inj (i := i) (j := j) (h₀ := by simpa using hi) (h₁ := by simpa using hj) hnd).1 (by simp only [List.getElem_map]; exact hk0.trans hk1.symm)
          subst this
          rfl
        subst he
        unfold rawE at hR
        rw [← Option.some.inj hR]
      · exact absurd hk0 (hno e0 hm0)
  · intro w2 val hw2
    rw [ChangeMaps.heap_setBlock_same hb] at hw2
    obtain ⟨es', clock', hst, hup⟩ := hback w2 val hw2
    obtain ⟨w', hup', hown', hg'⟩ := h0.update (Keyed.of_law K) ht hn hkey (val := val) (d := .held val) (ps := []) rfl
    rw [hup] at hup'
    obtain rfl : ChangeMaps.setBlock w b (.map es' clock') = w' := by simpa using hup'
    obtain ⟨es2, clock2, hb2, F2, hs2, hD2⟩ := hown'
    rw [ChangeMaps.heap_setBlock_same hb] at hb2
    obtain ⟨rfl, rfl⟩ : es' = es2 ∧ clock' = clock2 := by simpa using hb2
    exact ⟨_, hst, ⟨es', clock', ChangeMaps.heap_setBlock_same hw2 _, F2, hs2, hD2⟩, ⟨rfl, rfl, rfl, by simp [ChangeMaps.setBlock], fun i _ hi => ChangeMaps.heap_setBlock_other hw2 _ (fun e => hi (by rw [e]))⟩⟩
namespace M
def cpl (l : List Mv) (p : P5) : Option (Nat × Nat) := match idx l p.a, idx l p.b with
  | some i, some j => if i = j then none else some (min i j, max i j)
  | _, _ => none
def sel (l : List Mv) (ps : List P5) (a b : Nat) : List P5 := ps.filter fun p => decide (cpl l p = some (a, b))
theorem sel_yes {l : List Mv} {ps : List P5} {p : P5} {a b : Nat} (h : cpl l p = some (a, b)) : sel l (ps ++ [p]) a b = sel l ps a b ++ [p] := by
  unfold sel; rw [List.filter_append, List.filter_cons_of_pos (by simpa using h)]; rfl
theorem sel_no {l : List Mv} {ps : List P5} {p : P5} {a b : Nat} (h : cpl l p ≠ some (a, b)) : sel l (ps ++ [p]) a b = sel l ps a b := by
  unfold sel; rw [List.filter_append, List.filter_cons_of_neg (by simpa using h)]; simp
theorem cpl_lt {l : List Mv} {p : P5} {a b : Nat} (h : cpl l p = some (a, b)) : a < b ∧ b < l.length := by
  unfold cpl at h
  split at h
  · rename_i i j hi hj
    obtain ⟨h1, -⟩ := idx_some hi
    obtain ⟨h2, -⟩ := idx_some hj
    split at h
    · cases h
    · injection h with h
      injection h with h3 h4
      omega
  · cases h
theorem sel_len (l : List Mv) (ps : List P5) (a b : Nat) : (sel l ps a b).length ≤ ps.length := List.length_filter_le _ _
theorem sel_waits {l : List Mv} (hp : l.Pairwise fun x y => x.st < y.st) (ps : List P5) {a b : Nat} (hab : a < b) (hb : b < l.length) : waits (sel l ps a b) (l[a]'(by omega)) l[b] = waits ps (l[a]'(by omega)) l[b] ∧ waits (sel l ps a b) l[b] (l[a]'(by omega)) = waits ps l[b] (l[a]'(by omega)) := by
  have ha : a < l.length := by omega
  have i1 := idx_at hp ha
  have i2 := idx_at hp hb
  have key : ∀ p ∈ ps, (p.a = l[a].st ∧ p.b = l[b].st) ∨ (p.a = l[b].st ∧ p.b = l[a].st) → p ∈ sel l ps a b := fun p hm hh => by
    refine List.mem_filter.2 ⟨hm, ?_⟩
    rw [decide_eq_true_eq]
    unfold cpl
    rcases hh with ⟨h1, h2⟩ | ⟨h1, h2⟩
    · rw [h1, h2, i1, i2]
      simp only
      rw [if_neg (by omega), Nat.min_eq_left (by omega), Nat.max_eq_right (by omega)]
    · rw [h1, h2, i1, i2]
      simp only
      rw [if_neg (by omega), Nat.min_eq_right (by omega), Nat.max_eq_left (by omega)]
  exact ⟨waits_of (fun p hm => (List.mem_filter.1 hm).1) key, waits_of (fun p hm => (List.mem_filter.1 hm).1) (fun p hm hh => key p hm hh.symm)⟩
end M
structure CM (W : World) (base bm n : Nat) (l : List Mv) (ps : List P5) (D : DataW Value) (V : Nat → Nat → Value) : Prop where
  own : W.ownsMap Tryz.prog 195 rawE bm n D
  map : IsMap D
  has : ∀ kl, Maps.has D kl = true → ∃ a b p, p ∈ ps ∧ M.cpl l p = some (a, b) ∧ kl = klit a b
  hit : ∀ a b, a ≤ 1000000 → b ≤ 1000000 → D.atKey (klit a b) (.held (.slice none 0 0)) = .held (V a b)
  yes : ∀ a b p, p ∈ ps → M.cpl l p = some (a, b) → Maps.has D (klit a b) = true
  row : ∀ a b, W.ownsRow base 190 5 (V a b) (M.sel l ps a b).length (flat 5 p5cell (M.sel l ps a b))
  apart : ∀ a b c d, (a, b) ≠ (c, d) → (V a b).ownBlock = none ∨ (V a b).ownBlock ≠ (V c d).ownBlock
theorem CM.start {W : World} {base bm : Nat} (h : W.ownsMap Tryz.prog 195 rawE bm 0 (.map [])) (l : List Mv) : CM W base bm 0 l [] (.map []) (fun _ _ => .slice none 0 0) :=
  ⟨h, isMap_empty, (fun kl h => by cases h), (fun a b _ _ => rfl), (fun a b p h => absurd h (by simp)), (fun a b => own_nil _ _ _ _ _), (fun a b c d _ => .inl rfl)⟩
theorem CM.kept {W W' : World} {base bm n : Nat} {l : List Mv} {ps : List P5} {D : DataW Value} {V : Nat → Nat → Value} (h : CM W base bm n l ps D V) {row : Option Nat} (hg : W.grownBy W' row) (hm : some bm ≠ row) (hr : ∀ r, row = some r → r < base) : CM W' base bm n l ps D V :=
  ⟨h.own.kept hg hm, h.map, h.has, h.hit, h.yes, fun a b => (h.row a b).kept hg (by
    cases e : (V a b).ownBlock with
    | none => exact .inl rfl
    | some g =>
      refine .inr (fun e2 => ?_)
      have h1 := ((h.row a b).lt g e).1
      have h2 := hr g e2.symm
      omega), h.apart⟩
theorem CM.next {W W' : World} {base bm n : Nat} {l : List Mv} {ps : List P5} {D : DataW Value} {V : Nat → Nat → Value} (h : CM W base bm n l ps D V) (hb : Below W.heap.size W W') : CM W' base bm n l ps D V := h.kept (below_grown hb) (by simp) (fun r e => by cases e)
theorem CM.skip {W : World} {base bm n : Nat} {l : List Mv} {ps : List P5} {D : DataW Value} {V : Nat → Nat → Value} (h : CM W base bm n l ps D V) {p : P5} (hp : M.cpl l p = none) : CM W base bm n l (ps ++ [p]) D V :=
  ⟨h.own, h.map, (fun kl hk => by
    obtain ⟨a, b, q, hq, h2⟩ := h.has kl hk
    exact ⟨a, b, q, List.mem_append.2 (.inl hq), h2⟩), h.hit, (fun a b q hq hc => by
    rcases List.mem_append.1 hq with hq | hq
    · exact h.yes a b q hq hc
    · rw [List.mem_singleton.1 hq, hp] at hc; cases hc), (fun a b => by
    rw [M.sel_no (by rw [hp]; simp)]
    exact h.row a b), h.apart⟩
theorem CM.put {W W1 W2 W3 : World} {base bm n : Nat} {l : List Mv} {ps : List P5} {D : DataW Value} {V : Nat → Nat → Value} (h : CM W base bm n l ps D V) (hbm : bm < base) (hl : l.length ≤ 512) {p : P5} {a b : Nat} (hp : M.cpl l p = some (a, b)) {v' : Value}
    (hg1 : W.grownBy W1 (some bm)) (hg2 : W1.grownBy W2 (V a b).ownBlock) (hown2 : W2.ownsRow base 190 5 v' ((M.sel l ps a b).length + 1) (flat 5 p5cell (M.sel l ps a b ++ [p])))
    (hloc : ∀ g, v'.ownBlock = some g → (V a b).ownBlock = some g ∨ W.heap.size ≤ g)
    (hown3 : W3.ownsMap Tryz.prog 195 rawE bm (n + 1) (D.put (klit a b) (.held v'))) (hg3 : W2.grownBy W3 (some bm)) : CM W3 base bm (n + 1) l (ps ++ [p]) (D.put (klit a b) (.held v')) (fun c d => if (c, d) = (a, b) then v' else V c d) := by
  have hlt := M.cpl_lt hp
  have hnb : ∀ c d, (V c d).ownBlock ≠ some bm := fun c d e => by have := ((h.row c d).lt _ e).1; omega
  have nb : ∀ {v : Value} {W : World} {m : Nat} {xs : List Value}, W.ownsRow base 190 5 v m xs → v.ownBlock = none ∨ v.ownBlock ≠ some bm := fun {v _ _ _} ho => by
    cases e : v.ownBlock with
    | none => exact .inl rfl
    | some g => exact .inr (fun e2 => by have := (ho.lt g e).1; have := Option.some.inj e2; omega)
  refine ⟨hown3, h.map.put _ _, fun kl hk => ?_, fun c d hc hd => ?_, fun c d q hq hc => ?_, fun c d => ?_, fun c d c' d' hne => ?_⟩
  · by_cases e : kl = klit a b
    · exact ⟨a, b, p, by simp, hp, e⟩
    · rw [has_put_other e] at hk
      obtain ⟨c, d, q, hq, h2⟩ := h.has kl hk
      exact ⟨c, d, q, List.mem_append.2 (.inl hq), h2⟩
  · by_cases e : (c, d) = (a, b)
    · injection e with e1 e2
      subst e1 e2
      simp only [if_true]
      exact atKey_put_same h.map (klit_key c d) _ _
    · simp only [if_neg e]
      rw [atKey_put_other (fun e2 => e (by
        have := klit_inj hc hd (by omega) (by omega) e2
        rw [this.1, this.2]))]
      exact h.hit c d hc hd
  · by_cases e : (c, d) = (a, b)
    · injection e with e1 e2
      subst e1 e2
      exact has_put_same h.map (klit_key c d) _
    · have hcd := M.cpl_lt hc
      rw [has_put_other (fun e2 => e (by
        have := klit_inj (by omega) (by omega) (by omega) (by omega) e2
        rw [this.1, this.2]))]
      rcases List.mem_append.1 hq with hq | hq
      · exact h.yes c d q hq hc
      · rw [List.mem_singleton.1 hq, hp] at hc
        exact absurd (Option.some.inj hc).symm e
  · by_cases e : (c, d) = (a, b)
    · injection e with e1 e2
      subst e1 e2
      simp only [if_true]
      rw [M.sel_yes hp, List.length_append]
      exact hown2.kept hg3 (nb hown2)
    · simp only [if_neg e]
      rw [M.sel_no (fun e2 => e (Option.some.inj (hp.symm.trans e2)).symm)]
      exact (((h.row c d).kept hg1 (nb (h.row c d))).kept hg2 (h.apart c d a b e)).kept hg3 (nb (h.row c d))
  · have fresh : ∀ c d, (c, d) ≠ (a, b) → (V c d).ownBlock = none ∨ (V c d).ownBlock ≠ v'.ownBlock := fun c d hne2 => by
      cases e : (V c d).ownBlock with
      | none => exact .inl rfl
      | some g =>
        refine .inr (fun e2 => ?_)
        rcases hloc g e2.symm with h1 | h1
        · rcases h.apart c d a b hne2 with h2 | h2
          · rw [e] at h2; cases h2
          · exact h2 (e.trans h1.symm)
        · have := ((h.row c d).lt g e).2
          omega
    by_cases e : (c, d) = (a, b)
    · by_cases e' : (c', d') = (a, b)
      · exact absurd (e.trans e'.symm) hne
      · simp only [if_pos e, if_neg e']
        cases ev : v'.ownBlock with
        | none => exact .inl rfl
        | some g =>
          refine .inr (fun e2 => ?_)
          rcases fresh c' d' e' with h1 | h1
          · rw [h1] at e2; cases e2
          · exact h1 (by rw [← e2, ev])
    · by_cases e' : (c', d') = (a, b)
      · simp only [if_neg e, if_pos e']
        exact fresh c d e
      · simp only [if_neg e, if_neg e']
        exact h.apart c d c' d' hne
end Go.Proofs.YtpkepgcmifdpfaaGreatDoor
end

section
namespace Go.Proofs.YtpkepgcmifdpfaaGreatDoor
open Go Go.RowKit Go.Maps
set_option maxRecDepth 100000
abbrev plv (p : M.Pl) : Value := .agg #[.bool p.1, .int .i64 p.2]
def plit (p : M.Pl) : Lit := .string (keyBytes [.bool p.1, .int .i64 p.2])
theorem plit_key (p : M.Pl) : WideAt.IsKeyLit (plit p) := by simp [plit, WideAt.IsKeyLit]
theorem cellsBoolP : Tryz.prog.cellsOf 4 = 1 := by kernel_rfl
section tower
theorem rowPlace : (145 : TypeId) < Tryz.prog.types.size := of_decide_eq_true (by kernel_rfl)
theorem cellsPlace : Tryz.prog.cellsOf 145 = 2 := by kernel_rfl
theorem widePlace : (match Tryz.prog.underlying 145 with | some (.array _ _) | some (.struct _) => true | _ => false) = true := by rw [Tryz.underlying145]
theorem placeLaw : WideMaps.KeyLaw Tryz.prog 145 := deep_law_laid laidOutG (m := 2) (by omega) rowPlace (by kernel_rfl) widePlace
theorem placeKeyed : Keyed Tryz.prog 145 := Keyed.of_law placeLaw
theorem keyTypePlace : Tryz.prog.keyType 145 = true := by kernel_rfl
theorem place_key {p : M.Pl} (h : 0 ≤ p.2 ∧ p.2 ≤ 1000000) : keyOf Tryz.prog 145 (plv p) = some (plit p) := by
  obtain ⟨m, hm⟩ : ∃ m, Tryz.prog.types.size + 1 = m + 2 := by
    obtain ⟨k, hk⟩ := Nat.exists_eq_add_of_lt rowPlace
    exact ⟨_ + k, by rw [hk]⟩
  have hf : (plv p).formed Tryz.prog 145 = true := by simp [Value.formed, Tryz.underlying145, cellsPlace]
  have h2 : (Lit.int .i64 p.2).wf = true := wf64 ⟨by omega, by omega⟩
  have hk : Tryz.prog.keyLits (m + 2) 145 [.bool p.1, .int .i64 p.2] = some [.bool p.1, .int .i64 p.2] := by
    simp [Program.keyLits, Tryz.underlying145, Tryz.underlying3, Tryz.underlying4, cellsPlace, cellsBoolP, cellsIntG, h2]
  unfold keyOf plit
  rw [Tryz.underlying145, keyTypePlace, hf, hm]
  simp only [Bool.and_self, if_true]
  rw [show (plv p).cells.toList = [.bool p.1, .int .i64 p.2] from rfl, hk]
  rfl
end tower
theorem plit_inj {p q : M.Pl} (hp : 0 ≤ p.2 ∧ p.2 ≤ 1000000) (hq : 0 ≤ q.2 ∧ q.2 ≤ 1000000) (h : plit p = plit q) : p = q := by
  have h1 := place_key hp
  rw [h] at h1
  have h2 := placeKeyed.inj h1 (place_key hq)
  simp only [plv, Value.agg.injEq, Array.mk.injEq, List.cons.injEq, Value.int.injEq, Value.bool.injEq, true_and, and_true] at h2
  exact Prod.ext h2.1 h2.2
theorem M.plc_le {m : Mv} (h : M.mvOk m = true) (c : Bool) : 0 ≤ (M.plc m c).2 ∧ (M.plc m c).2 ≤ 1000000 := by
  have := M.mvOk_iff.1 h
  cases c
  · rw [M.plc_f]; simp only; omega
  · rw [M.plc_t]; simp only; omega
namespace M
def fnd : List Si → Int → Si
  | [], _ => ⟨0, 0⟩
  | s :: l, i => if s.id = i then s else fnd l i
def fdB (l : List Si) (i : Int) : Bool := l.any fun s => decide (s.id = i)
theorem fnd_cap (l : List Si) (i : Int) : (fnd l i).cp = cap l i := by
  induction l with
  | nil => rfl
  | cons s l ih =>
    unfold fnd cap
    split
    · rfl
    · exact ih
theorem fnd_hit {l : List Si} {i : Int} {k : Nat} (hk : k < l.length) (h : l[k].id = i) (hn : ∀ j (hj : j < l.length), j < k → l[j].id ≠ i) : fnd l i = l[k] ∧ fdB l i = true := by
  refine ⟨?_, List.any_eq_true.2 ⟨_, List.getElem_mem hk, by simpa using h⟩⟩
  induction l generalizing k with
  | nil => simp at hk
  | cons s l ih =>
    cases k with
    | zero => simp at h; simp [fnd, h]
    | succ k =>
      have h0 := hn 0 (by simp) (by omega)
      simp at h0
      simp only [fnd, if_neg h0, List.getElem_cons_succ]
      exact ih (by simpa using hk) (by simpa using h) fun j hj hjk => hn (j + 1) (by simpa using hj) (by omega)
theorem fnd_miss {l : List Si} {i : Int} (hn : ∀ j (hj : j < l.length), l[j].id ≠ i) : fnd l i = ⟨0, 0⟩ ∧ fdB l i = false := by
  constructor
  · induction l with
    | nil => rfl
    | cons s l ih =>
      have h0 := hn 0 (by simp)
      simp at h0
      simp only [fnd, if_neg h0]
      exact ih fun j hj => hn (j + 1) (by simpa using hj)
  · unfold fdB
    rw [List.any_eq_false]
    intro s hs
    obtain ⟨k, hk, rfl⟩ := List.getElem_of_mem hs
    simpa using hn k hk
theorem fdB_cap {l : List Si} (h : sisOk l) (i : Int) : fdB l i = true ↔ cap l i ≠ 0 := by
  constructor
  · intro h2
    obtain ⟨s, hs, e⟩ := List.any_eq_true.1 h2
    obtain ⟨k, hk, rfl⟩ := List.getElem_of_mem hs
    have := cap_ne h hk (by simpa using e)
    omega
  · intro h2
    rcases cap_cases l i with ⟨h3, -⟩ | ⟨k, hk, h3, -⟩
    · exact absurd h3 h2
    · exact List.any_eq_true.2 ⟨_, List.getElem_mem hk, by simpa using h3⟩
end M
set_option maxHeartbeats 4000000 in
theorem capId_ok (s : Si) (w : World) : Calls Tryz.prog 108 #[siv s] w fun e w' => e = .returned (.int .i64 s.id) ∧ Below w.heap.size w w' := by
  obtain ⟨V, HW, x0, hB, -⟩ := boxes1 w (sic s) 64
  obtain ⟨c0, c1⟩ := x0.c2
  have hV := HW.out
  go_enter Tryz.func108, Tryz.ntmps108
  go_wp2_with fail
  go_ret
  exact ⟨rfl, hB⟩
abbrev plsv (m : Mv) : Value := .agg #[.bool false, .int .i64 m.tw, .bool true, .int .i64 m.cr]
set_option maxHeartbeats 4000000 in
theorem places_ok (m : Mv) (w : World) : Calls Tryz.prog 85 #[mvv m] w fun e w' => e = .returned (plsv m) ∧ Below w.heap.size w w' := by
  obtain ⟨V, HW, x0, x1, hB, hs⟩ := boxes2 w (mvc m) 66 #[.bool false, .int .i64 0, .bool false, .int .i64 0] 146
  obtain ⟨c0, c1, c2, c3, c4, c5⟩ := x0.c6'
  obtain ⟨d0, d1, d2, d3⟩ := x1.c4
  have f0 := x1.frozen 0
  have f1 := x1.frozen 1
  have f2 := x1.frozen 2
  have f3 := x1.frozen 3
  have hV := HW.out
  have HS := Lib.hid hs
  clear hs
  go_enter Tryz.func85, Tryz.ntmps85
  go_wp2_with fail
  have z := (((x1.set 0 (.bool false)).set 1 (.int .i64 m.tw)).set 2 (.bool true)).set 3 (.int .i64 m.cr)
  obtain ⟨z0, z1, z2, z3⟩ := z.c4
  refine bodyPost_ret (v := plsv m) ?_ rfl ⟨rfl, ?_⟩
  · simp [results, Tryz.results85, go_sem, z0, z1, z2, z3]
  · exact (((hB.setCell (p := ⟨w.heap.size + 1, 0, none⟩) (by dsimp only; omega) _).setCell (p := ⟨w.heap.size + 1, 1, none⟩) (by dsimp only; omega) _).setCell (p := ⟨w.heap.size + 1, 2, none⟩) (by dsimp only; omega) _).setCell (p := ⟨w.heap.size + 1, 3, none⟩) (by dsimp only; omega) _
abbrev capF : Value := .func (.func 108) #[] #[]
set_option maxHeartbeats 16000000 in
theorem find_ok (LA : Option Addr) (lc : Nat) (l : List Si) (i : Int) (w : World) (hL : Sl 2 sicell w w.heap.size LA l) (hl : l.length ≤ 9223372036854775806) :
    Calls Tryz.prog 109 #[.slice LA l.length lc, .int .i64 i, capF] w fun e w' => e = .returned (.tuple #[siv (M.fnd l i), .bool (M.fdB l i)]) ∧ Below w.heap.size w w' := by
  obtain ⟨V, HW, x6, hB, hsV⟩ := boxes1 w #[.int .i64 0, .int .i64 0] 64
  obtain ⟨rs, hrs⟩ : ∃ rs, M.fnd l i = rs := ⟨_, rfl⟩
  obtain ⟨rb, hrb⟩ : ∃ rb, M.fdB l i = rb := ⟨_, rfl⟩
  rw [hrs, hrb]
  have HRS := Lib.hid hrs
  have HRB := Lib.hid hrb
  have HSV := Lib.hid hsV
  clear hrs hrb hsV
  have hV := HW.out
  go_enter Tryz.func109, Tryz.ntmps109
  go_wp2_with fail
  clear hV
  go_loopw [9, 13] (fun _ j wr => ∃ k : Nat, k ≤ l.length ∧ j = .int .i64 k ∧ Below w.heap.size w wr ∧ Box wr w.heap.size #[.int .i64 0, .int .i64 0] 64 ∧ Hid (∀ u (hu : u < l.length), u < k → l[u].id ≠ i)) (fun _ j _ => l.length - (intOf j).toNat)
  case atStart => exact ⟨0, Nat.zero_le _, rfl, hB, x6, Lib.hid (fun u _ h => absurd h (by omega))⟩
  case round =>
    clear x6 hB
    obtain ⟨k, hk, rfl, hBr, x6, HN⟩ := hrel
    by_cases hlt : k < l.length
    · obtain ⟨la, rfl, hlb, a0, a1⟩ := (hL.below hBr).si2 hlt
      have l1 := Nat.lt_of_lt_of_le hlb hBr.size
      have x0 : (0 : Int) ≤ (k : Int) := by omega
      have x1 : (k : Int) < (l.length : Int) := by omega
      have q0 : decide ((k : Int) < (l.length : Int)) = true := decide_eq_true x1
      by_cases he : l[k].id = i
      · have q1 : (l[k].id == i) = true := by simpa using he
        obtain ⟨g1, g2⟩ := M.fnd_hit hlt he HN.out
        have HV1 : Hid (l[k] = rs) := Lib.hid (g1.symm.trans HRS.out)
        have HV2 : Hid (true = rb) := Lib.hid (g2.symm.trans HRB.out)
        clear he g1 g2 HN
        generalize l[k] = s at *
        obtain ⟨X, HX, u0, hbX, -⟩ := boxes1 wr (sic s) 64
        have BX := after_ hBr hbX
        have y6 := x6.below hbX
        obtain ⟨u1, u2⟩ := u0.c2
        have hX := HX.out
        go_wp2_with fail
        clear hX
        refine (capId_ok s X).mono ?_
        rintro e w5 ⟨rfl, hb5⟩
        have B5 := after_ BX hb5
        have z6 := y6.below hb5
        obtain ⟨v1, v2⟩ := (u0.below hb5).c2
        obtain ⟨d0, d1⟩ := z6.c2
        have f0 := z6.frozen 0
        have f1 := z6.frozen 1
        go_wp2_with fail
        have z := (z6.set 0 (.int .i64 s.id)).set 1 (.int .i64 s.cp)
        obtain ⟨z0, z1⟩ := z.c2
        refine bodyPost_ret (v := .tuple #[siv rs, .bool rb]) ?_ rfl ⟨rfl, ?_⟩
        · rw [← HV1.out, ← HV2.out]
          simp [results, Tryz.results109, go_sem, z0, z1]
        · exact (B5.setCell (p := ⟨w.heap.size, 0, none⟩) (Nat.le_refl _) _).setCell (p := ⟨w.heap.size, 1, none⟩) (Nat.le_refl _) _
      · have q1 : (l[k].id == i) = false := by simpa using he
        have HE : Hid (∀ u (hu : u < l.length), u < k + 1 → l[u].id ≠ i) := Lib.hid (fun u hu hk2 => by
          by_cases e : u = k
          · subst e; exact he
          · exact HN.out u hu (by omega))
        clear he HN
        generalize l[k] = s at *
        obtain ⟨X, HX, u0, hbX, -⟩ := boxes1 wr (sic s) 64
        have BX := after_ hBr hbX
        have y6 := x6.below hbX
        obtain ⟨u1, u2⟩ := u0.c2
        have hX := HX.out
        go_wp2_with fail
        clear hX
        refine (capId_ok s X).mono ?_
        rintro e w5 ⟨rfl, hb5⟩
        have B5 := after_ BX hb5
        have z6 := y6.below hb5
        go_wp2_with fail
        go_roundw
        case rel => exact ⟨k + 1, hlt, by go_num, B5, z6, HE⟩
        case measure => simp [intOf]; omega
    · obtain rfl : k = l.length := by omega
      obtain ⟨g1, g2⟩ := M.fnd_miss (fun u hu => HN.out u hu hu)
      have HV1 : Hid (⟨0, 0⟩ = rs) := Lib.hid (g1.symm.trans HRS.out)
      have HV2 : Hid (false = rb) := Lib.hid (g2.symm.trans HRB.out)
      have q0 : decide ((l.length : Int) < (l.length : Int)) = false := decide_eq_false (by omega)
      clear HN g1 g2
      obtain ⟨X, HX, u0, hbX, -⟩ := boxes1 wr #[.int .i64 0, .int .i64 0] 64
      have BX := after_ hBr hbX
      have y6 := x6.below hbX
      obtain ⟨u1, u2⟩ := u0.c2
      obtain ⟨d0, d1⟩ := y6.c2
      have f0 := y6.frozen 0
      have f1 := y6.frozen 1
      have hX := HX.out
      go_wp2_with fail
      have z := (y6.set 0 (.int .i64 0)).set 1 (.int .i64 0)
      obtain ⟨z0, z1⟩ := z.c2
      refine bodyPost_ret (v := .tuple #[siv rs, .bool rb]) ?_ rfl ⟨rfl, ?_⟩
      · rw [← HV1.out, ← HV2.out]
        simp [results, Tryz.results109, go_sem, z0, z1]
      · exact (BX.setCell (p := ⟨w.heap.size, 0, none⟩) (Nat.le_refl _) _).setCell (p := ⟨w.heap.size, 1, none⟩) (Nat.le_refl _) _
end Go.Proofs.YtpkepgcmifdpfaaGreatDoor
end

section
namespace Go.Proofs.YtpkepgcmifdpfaaGreatDoor
open Go Go.RowKit Go.Maps
set_option maxRecDepth 100000
def M.plcs (m : Mv) : List M.Pl := [M.plc m false, M.plc m true]
structure PD (f : M.Pl → Int) (D : DataW Unit) (ps : List M.Pl) : Prop where
  map : IsMap D
  hit : ∀ p ∈ ps, (0 ≤ p.2 ∧ p.2 ≤ 1000000) ∧ ∀ z, D.atKey (plit p) z = .lit (.int .i64 (f p))
theorem PD.start (f : M.Pl → Int) : PD f (.map []) [] := ⟨isMap_empty, fun p h => absurd h (by simp)⟩
theorem PD.put {f : M.Pl → Int} {D : DataW Unit} {ps : List M.Pl} (h : PD f D ps) {p : M.Pl} (hp : 0 ≤ p.2 ∧ p.2 ≤ 1000000) : PD f (D.put (plit p) (.lit (.int .i64 (f p)))) (ps ++ [p]) := by
  refine ⟨h.map.put _ _, fun q hq => ?_⟩
  by_cases e : q = p
  · subst e
    exact ⟨hp, fun z => atKey_put_same h.map (plit_key q) _ _⟩
  · have hq2 : q ∈ ps := by
      rcases List.mem_append.1 hq with h1 | h1
      · exact h1
      · exact absurd (List.mem_singleton.1 h1) e
    obtain ⟨h2, h3⟩ := h.hit q hq2
    exact ⟨h2, fun z => (atKey_put_other (fun e2 => e (plit_inj h2 hp e2)) _ _).trans (h3 z)⟩
theorem wf_cap {T C : List Si} (hT : M.sisOk T) (hC : M.sisOk C) (p : M.Pl) : (Lit.int .i64 (M.pcap T C p)).wf = true := wf64 ⟨by have := (M.pcap_bd hT hC p).1; omega, by have := (M.pcap_bd hT hC p).2; omega⟩
theorem idx_pl0 (m : Mv) (w : World) : (Instr.index 146 (plsv m) (.int .i64 0)).run Tryz.prog w = .ok (plv (false, m.tw)) w := by kernel_rfl
theorem idx_pl1 (m : Mv) (w : World) : (Instr.index 146 (plsv m) (.int .i64 1)).run Tryz.prog w = .ok (plv (true, m.cr)) w := by kernel_rfl
set_option maxHeartbeats 64000000 in
theorem capacities_ok (LA TA CA : Option Addr) (lc tc cc : Nat) (l : List Mv) (T C : List Si) (w : World) (hL : Sl 6 mvcell w w.heap.size LA l) (hT : Sl 2 sicell w w.heap.size TA T) (hC : Sl 2 sicell w w.heap.size CA C) (hl : l.length ≤ 9223372036854775806) (hTl : T.length ≤ 9223372036854775806) (hCl : C.length ≤ 9223372036854775806) :
    Calls Tryz.prog 84 #[.slice LA l.length lc, .slice TA T.length tc, .slice CA C.length cc, .bool true] w fun e w' => (∃ er, M.twIs l T C er ∧ ((er ≠ 0 ∧ e = .returned (.tuple #[.map none, .int .i64 er])) ∨ (er = 0 ∧ ∃ b nn D, e = .returned (.tuple #[.map (some b), .int .i64 0]) ∧ w.heap.size ≤ b ∧ w'.ownsMap Tryz.prog 145 (plainElem (H := Unit) Tryz.prog 3) b nn D ∧ PD (M.pcap T C) D (l.flatMap M.plcs)))) ∧ Below w.heap.size w w' := by
  have kM := towerMoves_ok LA lc l w hL hl
  go_enter Tryz.func84, Tryz.ntmps84
  go_wp2_with fail
  refine kM.mono ?_
  rintro e w1 ⟨⟨r, rfl, hr⟩, hb1⟩
  clear kM
  cases r with
  | false =>
    have HF : Hid (¬ M.twOk l T C) := Lib.hid (fun h => by have := hr.2 h.1; cases this)
    clear hr
    go_wp2_with fail
    go_ret2
    exact ⟨⟨2, .inr (.inr ⟨HF.out, rfl⟩), .inl ⟨by decide, rfl⟩⟩, hb1⟩
  | true =>
  have hMO : Hid (M.mvsOk l) := Lib.hid (hr.1 rfl)
  clear hr
  by_cases hTo : M.sisOk T
  case neg =>
    have HF : Hid (¬ M.twOk l T C) := Lib.hid (fun h => hTo h.2.1)
    have kT := towerSites_ok TA tc T w1 ((hT.below hb1).more hb1.size) hTl false ⟨(fun h => by cases h), fun h => absurd h hTo⟩
    clear hTo
    go_wp2_with fail
    refine kT.mono ?_
    rintro e w2 ⟨rfl, hb2⟩
    have B2 := after_ hb1 hb2
    go_wp2_with fail
    go_ret2
    exact ⟨⟨2, .inr (.inr ⟨HF.out, rfl⟩), .inl ⟨by decide, rfl⟩⟩, B2⟩
  have kT := towerSites_ok TA tc T w1 ((hT.below hb1).more hb1.size) hTl true ⟨fun _ => hTo, fun _ => rfl⟩
  have HTO := Lib.hid hTo
  clear hTo
  go_wp2_with fail
  refine kT.mono ?_
  rintro e w2 ⟨rfl, hb2⟩
  have B2 := after_ hb1 hb2
  clear kT hb1 hb2
  by_cases hCo : M.sisOk C
  case neg =>
    have HF : Hid (¬ M.twOk l T C) := Lib.hid (fun h => hCo h.2.2)
    have kC := towerSites_ok CA cc C w2 ((hC.below B2).more B2.size) hCl false ⟨(fun h => by cases h), fun h => absurd h hCo⟩
    clear hCo
    go_wp2_with fail
    refine kC.mono ?_
    rintro e w3 ⟨rfl, hb3⟩
    have B3 := after_ B2 hb3
    go_wp2_with fail
    go_ret2
    exact ⟨⟨2, .inr (.inr ⟨HF.out, rfl⟩), .inl ⟨by decide, rfl⟩⟩, B3⟩
  have kC := towerSites_ok CA cc C w2 ((hC.below B2).more B2.size) hCl true ⟨fun _ => hCo, fun _ => rfl⟩
  have HCO := Lib.hid hCo
  clear hCo
  go_wp2_with fail
  refine kC.mono ?_
  rintro e w3 ⟨rfl, hb3⟩
  have B3 := after_ B2 hb3
  clear kC B2 hb3
  have HOK : Hid (M.twOk l T C) := Lib.hid ⟨hMO.out, HTO.out, HCO.out⟩
  have hl512 := hMO.out.1
  have hmm := @run_makeMap Tryz.prog
  obtain ⟨U, HU⟩ : ∃ U, Hid (w3.alloc (.map #[] 0) = U) := ⟨_, Lib.hid rfl⟩
  have hU := HU.out
  have hbU : Below w3.heap.size w3 U := by rw [← hU]; exact (Below.refl _ _).alloc (Nat.le_refl _) _
  have BU := after_ B3 hbU
  have hownU : U.ownsMap Tryz.prog 145 (plainElem (H := Unit) Tryz.prog 3) w3.heap.size 0 (.map []) := by rw [← hU]; exact World.ownsMap_made _ _ _ _
  have hwb : w.heap.size ≤ w3.heap.size := B3.size
  go_wp2_with fail
  clear hU hmm hbU
  generalize w3.heap.size = bm at *
  go_loopw [13, 15, 16, 17, 18, 39] (fun _ _ _ _ _ i wr => ∃ (k nn : Nat) (D : DataW Unit), k ≤ l.length ∧ nn ≤ 2 * k ∧ i = .int .i64 k ∧ Below w.heap.size w wr ∧ wr.ownsMap Tryz.prog 145 (plainElem (H := Unit) Tryz.prog 3) bm nn D ∧ Hid (PD (M.pcap T C) D ((l.take k).flatMap M.plcs)) ∧ Hid (∀ m ∈ l.take k, M.cap T m.tw ≠ 0 ∧ M.cap C m.cr ≠ 0)) (fun _ _ _ _ _ i _ => l.length - (intOf i).toNat)
  case atStart => exact ⟨0, 0, .map [], Nat.zero_le _, Nat.le_refl _, rfl, BU, hownU, Lib.hid (PD.start _), Lib.hid (fun m h => absurd h (by simp))⟩
  case round =>
    clear hownU BU
    obtain ⟨k, nn, D, hk, hnn, rfl, hBr, hown, HP, HC⟩ := hrel
    by_cases hlt : k < l.length
    · obtain ⟨la, rfl, hlb, a0, a1, a2, a3, a4, a5⟩ := (hL.below hBr).mv6 hlt
      have l1 := Nat.lt_of_lt_of_le hlb hBr.size
      have HTK : Hid (l.take (k + 1) = l.take k ++ [l[k]]) := Lib.hid (List.take_succ_eq_append_getElem hlt)
      have HMK := Lib.hid (hMO.out.2.1 l[k] (List.getElem_mem hlt))
      have HMEM := Lib.hid (List.getElem_mem hlt)
      have x0 : (0 : Int) ≤ (k : Int) := by omega
      have x1 : (k : Int) < (l.length : Int) := by omega
      have q0 : decide ((k : Int) < (l.length : Int)) = true := decide_eq_true x1
      generalize l[k] = m at *
      obtain ⟨X, HX, u0, hbX, -⟩ := boxes1 wr (mvc m) 66
      have BX := after_ hBr hbX
      have hownX := hown.kept (below_grown hbX) (by simp)
      obtain ⟨u1, u2, u3, u4, u5, u6⟩ := u0.c6'
      have hX := HX.out
      go_wp2_with fail
      clear hX
      refine (places_ok m X).mono ?_
      rintro e w4 ⟨rfl, hb4⟩
      have B4 := after_ BX hb4
      have hown4 := hownX.kept (below_grown hb4) (by simp)
      clear hown hownX u0 u1 u2 u3 u4 u5 u6 a0 a1 a2 a3 a4 a5 HX hbX BX hb4 hBr l1 hlb
      go_wp2_with fail
      go_loopw [15, 16, 17, 18, 45] (fun _ _ _ _ i wr => ∃ (c nn2 : Nat) (D2 : DataW Unit), (c = 0 ∧ i = .int .i64 0 ∨ c = 1 ∧ i = .int .i64 1 ∨ c = 2 ∧ i = .int .i64 2) ∧ nn2 ≤ nn + c ∧ Below w.heap.size w wr ∧ wr.ownsMap Tryz.prog 145 (plainElem (H := Unit) Tryz.prog 3) bm nn2 D2 ∧ Hid (PD (M.pcap T C) D2 ((l.take k).flatMap M.plcs ++ (M.plcs m).take c)) ∧ Hid (1 ≤ c → M.cap T m.tw ≠ 0) ∧ Hid (2 ≤ c → M.cap C m.cr ≠ 0)) (fun _ _ _ _ i _ => 2 - (intOf i).toNat)
      case atStart => exact ⟨0, nn, D, .inl ⟨rfl, rfl⟩, Nat.le_refl _, B4, hown4, Lib.hid (by rw [List.take_zero, List.append_nil]; exact HP.out), Lib.hid (fun h => absurd h (by decide)), Lib.hid (fun h => absurd h (by decide))⟩
      case round =>
        clear hown4 B4
        obtain ⟨c, nn2, D2, hcc, hn2, hBr, hown, HP2, HC1, HC2⟩ := hrel
        rcases hcc with ⟨rfl, rfl⟩ | ⟨rfl, rfl⟩ | ⟨rfl, rfl⟩
        · have q1 : decide ((0 : Int) < 2) = true := by decide
          have HPB := Lib.hid (M.plc_le HMK.out false)
          have HKEY : Hid (keyOf Tryz.prog 145 (plv (false, m.tw)) = some (plit (false, m.tw))) := Lib.hid (place_key HPB.out)
          have HWF : Hid ((Lit.int .i64 (M.fnd T m.tw).cp).wf = true) := Lib.hid (by rw [M.fnd_cap]; exact wf_cap HTO.out HCO.out (false, m.tw))
          obtain ⟨Y, HY, y0, hbY, -⟩ := boxes1 wr #[.bool false, .int .i64 m.tw] 145
          have BY := after_ hBr hbY
          have hownY := hown.kept (below_grown hbY) (by simp)
          obtain ⟨y1, y2⟩ := y0.c2
          have kF := find_ok TA tc T m.tw Y ((hT.below BY).more BY.size) hTl
          have hY := HY.out
          have ix := idx_pl0 m
          clear hown
          by_cases hfd : M.fdB T m.tw = true
          case neg =>
            have hfd' : M.fdB T m.tw = false := by simpa using hfd
            rw [hfd'] at kF
            have HF : Hid (¬ M.twAll l T C) := Lib.hid (fun h => by
              have h2 := h m HMEM.out
              exact hfd ((M.fdB_cap HTO.out m.tw).2 h2.1))
            clear hfd hfd'
            go_wp2_with fail
            clear hY
            refine kF.mono ?_
            rintro e w5 ⟨rfl, hb5⟩
            have B5 := after_ BY hb5
            obtain ⟨Z, HZ, z0, hbZ, -⟩ := boxes1 w5 (sic (M.fnd T m.tw)) 64
            have BZ := after_ B5 hbZ
            obtain ⟨z1, z2⟩ := z0.c2
            have hZ := HZ.out
            go_wp2_with fail
            go_ret2
            exact ⟨⟨9, .inr (.inl ⟨HOK.out, HF.out, rfl⟩), .inl ⟨by decide, rfl⟩⟩, BZ⟩
          rw [hfd] at kF
          have HC1' : Hid (M.cap T m.tw ≠ 0) := Lib.hid ((M.fdB_cap HTO.out m.tw).1 hfd)
          clear hfd
          go_wp2_with fail
          clear hY
          refine kF.mono ?_
          rintro e w5 ⟨rfl, hb5⟩
          have B5 := after_ BY hb5
          have hown5 := hownY.kept (below_grown hb5) (by simp)
          obtain ⟨Z, HZ, z0, hbZ, -⟩ := boxes1 w5 (sic (M.fnd T m.tw)) 64
          have BZ := after_ B5 hbZ
          have hownZ := hown5.kept (below_grown hbZ) (by simp)
          obtain ⟨z1, z2⟩ := z0.c2
          obtain ⟨t1, t2⟩ := (y0.below (after_ hb5 hbZ)).c2
          clear hown5 hownY kF
          have hZ := HZ.out
          go_wp2_with (at_mapUpdate; refine wpList_mapUpdate_own _ rfl _ _ _ 140 rfl 145 3 placeKeyed Tryz.underlying140 _ bm nn2 _ rfl hownZ (by unfold maxLen; omega) (plv (false, m.tw)) _ (plit (false, m.tw)) rfl rfl HKEY.out _ [] (plainElem_int Tryz.underlying3 HWF.out) ?_; intro w6 hown6 hg6)
          have B6 : Below w.heap.size w w6 := BZ.grown hg6 BZ.size (fun j e => by cases e; exact hwb)
          have HP3 : Hid (PD (M.pcap T C) (D2.put (plit (false, m.tw)) (.lit (.int .i64 (M.fnd T m.tw).cp))) ((l.take k).flatMap M.plcs ++ (M.plcs m).take 1)) := Lib.hid (by
            rw [M.fnd_cap]
            have := HP2.out.put (p := (false, m.tw)) HPB.out
            rw [List.append_assoc] at this
            exact this)
          go_roundw
          case rel => exact ⟨1, nn2 + 1, _, .inr (.inl ⟨rfl, by go_num⟩), by omega, B6, hown6, HP3, Lib.hid (fun _ => HC1'.out), Lib.hid (fun h => absurd h (by decide))⟩
          case measure => simp [intOf]
        · have q1 : decide ((1 : Int) < 2) = true := by decide
          have HPB := Lib.hid (M.plc_le HMK.out true)
          have HKEY : Hid (keyOf Tryz.prog 145 (plv (true, m.cr)) = some (plit (true, m.cr))) := Lib.hid (place_key HPB.out)
          have HWF : Hid ((Lit.int .i64 (M.fnd C m.cr).cp).wf = true) := Lib.hid (by rw [M.fnd_cap]; exact wf_cap HTO.out HCO.out (true, m.cr))
          obtain ⟨Y, HY, y0, hbY, -⟩ := boxes1 wr #[.bool true, .int .i64 m.cr] 145
          have BY := after_ hBr hbY
          have hownY := hown.kept (below_grown hbY) (by simp)
          obtain ⟨y1, y2⟩ := y0.c2
          have kF := find_ok CA cc C m.cr Y ((hC.below BY).more BY.size) hCl
          have hY := HY.out
          have ix := idx_pl1 m
          clear hown
          by_cases hfd : M.fdB C m.cr = true
          case neg =>
            have hfd' : M.fdB C m.cr = false := by simpa using hfd
            rw [hfd'] at kF
            have HF : Hid (¬ M.twAll l T C) := Lib.hid (fun h => by
              have h2 := h m HMEM.out
              exact hfd ((M.fdB_cap HCO.out m.cr).2 h2.2))
            clear hfd hfd'
            go_wp2_with fail
            clear hY
            refine kF.mono ?_
            rintro e w5 ⟨rfl, hb5⟩
            have B5 := after_ BY hb5
            obtain ⟨Z, HZ, z0, hbZ, -⟩ := boxes1 w5 (sic (M.fnd C m.cr)) 64
            have BZ := after_ B5 hbZ
            obtain ⟨z1, z2⟩ := z0.c2
            have hZ := HZ.out
            go_wp2_with fail
            go_ret2
            exact ⟨⟨9, .inr (.inl ⟨HOK.out, HF.out, rfl⟩), .inl ⟨by decide, rfl⟩⟩, BZ⟩
          rw [hfd] at kF
          have HC2' : Hid (M.cap C m.cr ≠ 0) := Lib.hid ((M.fdB_cap HCO.out m.cr).1 hfd)
          clear hfd
          go_wp2_with fail
          clear hY
          refine kF.mono ?_
          rintro e w5 ⟨rfl, hb5⟩
          have B5 := after_ BY hb5
          have hown5 := hownY.kept (below_grown hb5) (by simp)
          obtain ⟨Z, HZ, z0, hbZ, -⟩ := boxes1 w5 (sic (M.fnd C m.cr)) 64
          have BZ := after_ B5 hbZ
          have hownZ := hown5.kept (below_grown hbZ) (by simp)
          obtain ⟨z1, z2⟩ := z0.c2
          obtain ⟨t1, t2⟩ := (y0.below (after_ hb5 hbZ)).c2
          clear hown5 hownY kF
          have hZ := HZ.out
          go_wp2_with (at_mapUpdate; refine wpList_mapUpdate_own _ rfl _ _ _ 140 rfl 145 3 placeKeyed Tryz.underlying140 _ bm nn2 _ rfl hownZ (by unfold maxLen; omega) (plv (true, m.cr)) _ (plit (true, m.cr)) rfl rfl HKEY.out _ [] (plainElem_int Tryz.underlying3 HWF.out) ?_; intro w6 hown6 hg6)
          have B6 : Below w.heap.size w w6 := BZ.grown hg6 BZ.size (fun j e => by cases e; exact hwb)
          have HP3 : Hid (PD (M.pcap T C) (D2.put (plit (true, m.cr)) (.lit (.int .i64 (M.fnd C m.cr).cp))) ((l.take k).flatMap M.plcs ++ (M.plcs m).take 2)) := Lib.hid (by
            rw [M.fnd_cap]
            have := HP2.out.put (p := (true, m.cr)) HPB.out
            rw [List.append_assoc] at this
            exact this)
          go_roundw
          case rel => exact ⟨2, nn2 + 1, _, .inr (.inr ⟨rfl, by go_num⟩), by omega, B6, hown6, HP3, Lib.hid (fun _ => HC1.out (by decide)), Lib.hid (fun _ => HC2'.out)⟩
          case measure => simp [intOf]
        · have q1 : decide ((2 : Int) < 2) = false := by decide
          have HP4 : Hid (PD (M.pcap T C) D2 ((l.take (k + 1)).flatMap M.plcs)) := Lib.hid (by
            rw [HTK.out, List.flatMap_append]
            have h2 : [m].flatMap M.plcs = (M.plcs m).take 2 := by simp [M.plcs]
            rw [h2]; exact HP2.out)
          have HC4 : Hid (∀ x ∈ l.take (k + 1), M.cap T x.tw ≠ 0 ∧ M.cap C x.cr ≠ 0) := Lib.hid (fun x hx => by
            rw [HTK.out] at hx
            rcases List.mem_append.1 hx with hx | hx
            · exact HC.out x hx
            · rw [List.mem_singleton.1 hx]; exact ⟨HC1.out (by decide), HC2.out (by decide)⟩)
          go_wp2_with fail
          go_roundw
          case rel => exact ⟨k + 1, nn2, D2, hlt, by omega, by go_num, hBr, hown, HP4, HC4⟩
          case measure => simp [intOf]; omega
    · obtain rfl : k = l.length := by omega
      have q0 : decide ((l.length : Int) < (l.length : Int)) = false := decide_eq_false (by omega)
      have HP5 : Hid (PD (M.pcap T C) D (l.flatMap M.plcs)) := Lib.hid (by have := HP.out; rwa [List.take_length] at this)
      have HA : Hid (M.twAll l T C) := Lib.hid (fun m hm => HC.out m (by rw [List.take_length]; exact hm))
      clear HP HC
      go_wp2_with fail
      go_ret2
      exact ⟨⟨0, .inl ⟨HOK.out, HA.out, rfl⟩, .inr ⟨rfl, bm, nn, D, rfl, hwb, hown, HP5.out⟩⟩, hBr⟩
end Go.Proofs.YtpkepgcmifdpfaaGreatDoor
end

section
namespace Go.Proofs.YtpkepgcmifdpfaaGreatDoor
open Go Go.RowKit Go.Maps
section
open Go.ChangeShapes Go.WideShapes Go.MapKept Go.ChangeMaps
theorem mapEntry_upd {H : Type} {P : Program} {w : World} {t k e : TypeId} {R : Value → Option (DataW H × List MemPlace)} {b : Nat} {es : Array MapEntry} {clock : Nat} (K : WideMaps.KeyLaw P k) (ht : P.underlying t = some (.map k e)) {z : Value} (hz : ∀ u : World, (zeroValue e).run P u = .ok z u) (hb : w.heap[b]? = some (.map es clock)) (F : WideElems.Fit P k R es clock) {key : Value} {kl : Lit} (hkey : keyOf P k key = some kl) :
    ∃ (v0 : Value) (st : Nat) (w1 : World), (Instr.mapEntry t (.map (some b)) key).run P w = .ok (.tuple #[v0, goInt st]) w1 ∧ (Instr.mapUpdate t (.map (some b)) key v0).run P w = .ok () w1 := by
  rcases K.find w hkey es.toList F.keys with ⟨h1, h2⟩ | ⟨j, e0, h1, h2, h3⟩
  · refine ⟨z, clock, setBlock w b (.map (es.push ⟨key, z, clock⟩) (clock + 1)), ?_, ?_⟩
    · simp [Instr.mapEntry, run_underlying ht, MapKept.run_getObj_map hb, K.check w false hkey, h1, hz, MapKept.run_setObj_map _ hb, Result.andThen, setBlock]
    · simp [Instr.mapUpdate, run_underlying ht, MapKept.run_getObj_map hb, K.check w false hkey, h1, MapKept.run_setObj_map _ hb, Result.andThen, setBlock]
  · have hj : es[j]? = some e0 := by simpa using h2
    have same : ∀ v, v = e0.val → es.modify j (fun e => { e with key := key, val := v }) = es := fun v hv => by
      apply Array.ext'
      rw [Array.toList_modify, ChangeMaps.modify_eq_set _ _ _ _ h2]
      have : ({ e0 with key := key, val := v } : MapEntry) = e0 := by rw [← h3, hv]
      rw [this]
      exact WideElems.set_self _ _ _ h2
    have hsame : es.modify j (fun e => { e with key := key }) = es := by
      apply Array.ext'
      rw [Array.toList_modify, ChangeMaps.modify_eq_set _ _ _ _ h2]
      have : ({ e0 with key := key } : MapEntry) = e0 := by rw [← h3]
      rw [this]
      exact WideElems.set_self _ _ _ h2
    have hs2 := same e0.val rfl
    refine ⟨e0.val, e0.born, setBlock w b (.map es clock), ?_, ?_⟩
    · simp [Instr.mapEntry, run_underlying ht, MapKept.run_getObj_map hb, K.check w false hkey, h1, hj, h3, K.stays w hkey, hsame, MapKept.run_setObj_map _ hb, Result.andThen, setBlock]
    · simp [Instr.mapUpdate, run_underlying ht, MapKept.run_getObj_map hb, K.check w false hkey, h1, hj, h3, K.stays w hkey, hs2, MapKept.run_setObj_map _ hb, Result.andThen, setBlock]
theorem entry_int {P : Program} {w : World} {t k e : TypeId} {b n : Nat} {D : DataW Unit} (h : w.ownsMap P k (plainElem (H := Unit) P e) b n D) (K : WideMaps.KeyLaw P k) (hm : IsMap D) (ht : P.underlying t = some (.map k e)) (he : P.underlying e = some (.int .i64)) (hz : ∀ u : World, (zeroValue e).run P u = .ok (.int .i64 0) u) (hn : n < maxLen) {key : Value} {kl : Lit} (hkey : keyOf P k key = some kl) (hkl : WideAt.IsKeyLit kl) :
    ∃ (c : Int), D.atKey kl (.lit (.int .i64 0)) = .lit (.int .i64 c) ∧ (Lit.int .i64 c).wf = true ∧ (Instr.lookup t (.map (some b)) key false).run P w = .ok (.int .i64 c) w ∧ ∃ (st : Nat) (w1 : World), (Instr.mapEntry t (.map (some b)) key).run P w = .ok (.tuple #[.int .i64 c, goInt st]) w1 ∧ w.grownBy w1 (some b) ∧ w1.heap.size = w.heap.size ∧
      (Instr.lookup t (.map (some b)) key false).run P w1 = .ok (.int .i64 c) w1 ∧
      ∀ (w2 : World) (x : Int), (Lit.int .i64 x).wf = true → w2.heap[b]? = w1.heap[b]? → ∃ w3, (Instr.entryStore t (.map (some b)) (goInt st) (.int .i64 x)).run P w2 = .ok () w3 ∧ w3.ownsMap P k (plainElem (H := Unit) P e) b (n + 1) (D.put kl (.lit (.int .i64 x))) ∧ w2.grownBy w3 (some b) := by
  have Kd := Keyed.of_law K
  obtain ⟨c, hlk, hat, hwc⟩ := h.lookup_int Kd ht he (hz w) hkey
  have h0 := h
  obtain ⟨es, clock, hb, F, hs, rfl⟩ := h
  obtain ⟨v0, st, es1, clock1, hrun, hv0, hback⟩ := WideElems.entry_then_store K ht hz hb F hkey
  obtain ⟨v1, st1, w1, hrun1, hup1⟩ := mapEntry_upd K ht hz hb F hkey
  rw [hrun] at hrun1
  obtain ⟨⟨rfl, hst⟩, rfl⟩ : (v0 = v1 ∧ goInt st = goInt st1) ∧ setBlock w b (.map es1 clock1) = w1 := by simpa using hrun1
  clear hst hrun1
  have hvc : v0 = .int .i64 c := by
    rcases Maps.fit_look false Kd ht (hz w) hb F hkey with ⟨hr1, hno, -⟩ | ⟨e0, y, hm0, hk0, hr1, -⟩
    · rcases hv0 with ⟨e1, hm1, hk1, -⟩ | ⟨-, rfl⟩
      · exact absurd hk1 (hno e1 hm1)
      · rw [hlk] at hr1
        simpa using hr1.symm
    · rcases hv0 with ⟨e1, hm1, hk1, rfl⟩ | ⟨hno, -⟩
      · obtain ⟨-, -, hnd⟩ := F.stamped
        have he0 : e0 = e1 := by
          obtain ⟨i, hi, rfl⟩ := List.getElem_of_mem hm0
          obtain ⟨j, hj, rfl⟩ := List.getElem_of_mem hm1
          have := (List.getElem_inj (i := i) (j := j) (h₀ := by simpa using hi) (h₁ := by simpa using hj) hnd).1 (by simp only [List.getElem_map]; exact hk0.trans hk1.symm)
          subst this
          rfl
        subst he0
        rw [hlk] at hr1
        simpa using hr1.symm
      · exact absurd hk0 (hno e0 hm0)
  subst hvc
  obtain ⟨w', hup', hown', hg'⟩ := h0.update Kd ht hn hkey (val := .int .i64 c) (d := .lit (.int .i64 c)) (ps := []) (plainElem_int he hwc)
  rw [hup1] at hup'
  obtain rfl : setBlock w b (.map es1 clock1) = w' := by simpa using hup'
  obtain ⟨c2, hlk2, hat2, -⟩ := hown'.lookup_int Kd ht he (hz _) hkey
  rw [atKey_put_same hm hkl] at hat2
  obtain rfl : c = c2 := by injection hat2 with h1; injection h1
  refine ⟨c, hat, hwc, hlk, st, _, hrun, hg', by simp [setBlock], hlk2, fun w2 x hx hw2 => ?_⟩
  rw [heap_setBlock_same hb] at hw2
  obtain ⟨es', clock', hst, hup⟩ := hback w2 (.int .i64 x) hw2
  obtain ⟨w'', hup'', hown'', hg''⟩ := h0.update Kd ht hn hkey (val := .int .i64 x) (d := .lit (.int .i64 x)) (ps := []) (plainElem_int he hx)
  rw [hup] at hup''
  obtain rfl : setBlock w b (.map es' clock') = w'' := by simpa using hup''
  obtain ⟨es2, clock2, hb2, F2, hs2, hD2⟩ := hown''
  rw [heap_setBlock_same hb] at hb2
  obtain ⟨rfl, rfl⟩ : es' = es2 ∧ clock' = clock2 := by simpa using hb2
  exact ⟨_, hst, ⟨es', clock', heap_setBlock_same hw2 _, F2, hs2, hD2⟩, ⟨rfl, rfl, rfl, by simp [setBlock], fun i _ hi => heap_setBlock_other hw2 _ (fun e => hi (by rw [e]))⟩⟩
end
end Go.Proofs.YtpkepgcmifdpfaaGreatDoor
end

section
namespace Go.Proofs.YtpkepgcmifdpfaaGreatDoor
open Go Go.RowKit Go.Maps
namespace M
def wtx (ps : List P5) (l : List Mv) (i j : Nat) : Bool := match l[i]?, l[j]? with
  | some x, some y => waits ps x y
  | _, _ => false
theorem wtx_at (ps : List P5) {l : List Mv} {i j : Nat} (hi : i < l.length) (hj : j < l.length) : wtx ps l i j = waits ps l[i] l[j] := by
  unfold wtx; rw [List.getElem?_eq_getElem hi, List.getElem?_eq_getElem hj]
theorem wtx_lt {ps : List P5} {l : List Mv} {i j : Nat} (h : wtx ps l i j = true) : i < l.length ∧ j < l.length := by
  unfold wtx at h
  split at h
  · rename_i h1 h2
    exact ⟨(List.getElem?_eq_some_iff.1 h1).1, (List.getElem?_eq_some_iff.1 h2).1⟩
  · cases h
theorem rows_bit (ps : List P5) (l : List Mv) (i j : Nat) : (Dg.row (rows ps l) i).testBit j = wtx ps l i j := by
  by_cases hi : i < l.length
  · by_cases hj : j < l.length
    · rw [rows_at hi hj, wtx_at ps hi hj]
    · rw [Bool.eq_iff_iff]
      constructor
      · intro h
        unfold Dg.row rows at h
        rw [List.getD_eq_getElem?_getD, List.getElem?_map, List.getElem?_eq_getElem hi] at h
        simp only [Option.map_some, Option.getD_some] at h
        rw [Bs.ofP_bit, Bool.and_eq_true, decide_eq_true_eq] at h
        exact absurd h.1 hj
      · intro h; exact absurd (wtx_lt h).2 hj
  · have e : Dg.row (rows ps l) i = 0 := by
      unfold Dg.row rows
      rw [List.getD_eq_getElem?_getD, List.getElem?_map, List.getElem?_eq_none (by omega)]
      rfl
    rw [e, Nat.zero_testBit]
    cases h : wtx ps l i j with
    | false => rfl
    | true => exact absurd (wtx_lt h).1 hi
end M
theorem row_set {R : List Nat} {a : Nat} (ha : a < R.length) (y i : Nat) : Dg.row (R.set a y) i = if i = a then y else Dg.row R i := by
  unfold Dg.row
  rw [List.getD_eq_getElem?_getD, List.getD_eq_getElem?_getD, List.getElem?_set]
  by_cases e : a = i
  · subst e; simp [ha]
  · rw [if_neg e, if_neg (Ne.symm e)]
def prc (D : DataW Value) (left : Lit → Bool) (i j : Nat) : Bool := Maps.has D (klit (min i j) (max i j)) && !left (klit (min i j) (max i j))
structure RS (R : List Nat) (ps : List P5) (l : List Mv) (D : DataW Value) (left : Lit → Bool) : Prop where
  len : R.length = l.length
  bit : ∀ i j, (Dg.row R i).testBit j = (M.wtx ps l i j && prc D left i j)
theorem RS.start (ps : List P5) (l : List Mv) (D : DataW Value) : RS (List.replicate l.length 0) ps l D (Maps.has D) := by
  refine ⟨by simp, fun i j => ?_⟩
  have e : Dg.row (List.replicate l.length 0) i = 0 := by
    unfold Dg.row
    rw [List.getD_eq_getElem?_getD]
    by_cases h : i < l.length
    · simp [h]
    · rw [List.getElem?_eq_none (by simp; omega)]; rfl
  rw [e, Nat.zero_testBit]
  unfold prc
  cases Maps.has D (klit (min i j) (max i j)) <;> simp
theorem RS.new {R : List Nat} {ps : List P5} {l : List Mv} {D : DataW Value} {left : Lit → Bool} (h : RS R ps l D left) {a b : Nat} (hab : a < b) (hl : left (klit a b) = true) : (Dg.row R a).testBit b = false ∧ (Dg.row R b).testBit a = false := by
  constructor
  · rw [h.bit]; unfold prc; rw [Nat.min_eq_left (by omega), Nat.max_eq_right (by omega), hl]; simp
  · rw [h.bit]; unfold prc; rw [Nat.min_eq_right (by omega), Nat.max_eq_left (by omega), hl]; simp
def arc1 (q : Bool) (R : List Nat) (a b : Nat) : List Nat := if q = true then R.set a (Dg.row R a ||| 2 ^ b) else R
theorem arc1_len (q : Bool) (R : List Nat) (a b : Nat) : (arc1 q R a b).length = R.length := by unfold arc1; split <;> simp
theorem arc1_bit {q : Bool} {R : List Nat} {a b : Nat} (ha : a < R.length) (i j : Nat) : (Dg.row (arc1 q R a b) i).testBit j = ((Dg.row R i).testBit j || (q && decide (i = a) && decide (j = b))) := by
  unfold arc1
  cases q with
  | false => simp
  | true =>
    rw [if_pos rfl, row_set ha]
    by_cases e : i = a
    · subst e
      rw [if_pos rfl, Nat.testBit_or, Nat.testBit_two_pow]
      by_cases e2 : b = j
      · subst e2; simp
      · have e3 : ¬ j = b := fun h => e2 h.symm
        simp [e2, e3]
    · rw [if_neg e]; simp [e]
theorem RS.step {R : List Nat} {ps : List P5} {l : List Mv} {D : DataW Value} {left : Lit → Bool} (h : RS R ps l D left) (hl5 : l.length ≤ 512) {a b : Nat} (hab : a < b) (hb : b < l.length) (hl : left (klit a b) = true) (hh : Maps.has D (klit a b) = true) {q1 q2 : Bool} (h1 : M.waits ps (l[a]'(by omega)) l[b] = q1) (h2 : M.waits ps l[b] (l[a]'(by omega)) = q2) :
    RS (arc1 q2 (arc1 q1 R a b) b a) ps l D (fun z => left z && !z.sameKey (klit a b)) := by
  have ha : a < l.length := by omega
  have haR : a < R.length := by rw [h.len]; exact ha
  have hbR : b < (arc1 q1 R a b).length := by rw [arc1_len, h.len]; exact hb
  refine ⟨by rw [arc1_len, arc1_len]; exact h.len, fun i j => ?_⟩
  rw [arc1_bit hbR, arc1_bit haR]
  obtain ⟨n1, n2⟩ := h.new hab hl
  by_cases e1 : i = a ∧ j = b
  · obtain ⟨rfl, rfl⟩ := e1
    have hne : ¬ i = j := by omega
    rw [n1, M.wtx_at ps ha hb, h1]
    unfold prc
    rw [Nat.min_eq_left (by omega), Nat.max_eq_right (by omega), hh]
    simp only [WideAt.sameKey_self (klit_key i j)]
    simp [hne]
  · by_cases e2 : i = b ∧ j = a
    · obtain ⟨rfl, rfl⟩ := e2
      have hne : ¬ i = j := by omega
      rw [n2, M.wtx_at ps hb ha, h2]
      unfold prc
      rw [Nat.min_eq_right (by omega), Nat.max_eq_left (by omega), hh]
      simp only [WideAt.sameKey_self (klit_key j i)]
      simp [hne]
    · have x1 : (q1 && decide (i = a) && decide (j = b)) = false := by
        cases q1 <;> simp
        intro h3 h4; exact e1 ⟨h3, h4⟩
      have x2 : (q2 && decide (i = b) && decide (j = a)) = false := by
        cases q2 <;> simp
        intro h3 h4; exact e2 ⟨h3, h4⟩
      rw [x1, x2, Bool.or_false, Bool.or_false, h.bit]
      cases hw : M.wtx ps l i j with
      | false => rfl
      | true =>
        obtain ⟨hi, hj⟩ := M.wtx_lt hw
        have hk : klit (min i j) (max i j) ≠ klit a b := fun e => by
          have := klit_inj (by omega) (by omega) (by omega) (by omega) e
          rcases Nat.lt_or_ge i j with h3 | h3
          · rw [Nat.min_eq_left (by omega), Nat.max_eq_right (by omega)] at this
            exact e1 this
          · rw [Nat.min_eq_right (by omega), Nat.max_eq_left (by omega)] at this
            exact e2 ⟨this.2, this.1⟩
        unfold prc
        simp only [sameKey_ne hk]
        simp
theorem RS.done {W : World} {base bm n : Nat} {R : List Nat} {ps : List P5} {l : List Mv} {D : DataW Value} {V : Nat → Nat → Value} {left : Lit → Bool} (h : RS R ps l D left) (hc : CM W base bm n l ps D V) (hp : l.Pairwise fun x y => x.st < y.st) (hl : ∀ kl, left kl = false) : R = M.rows ps l := by
  apply List.ext_getElem
  · rw [h.len, M.rows_len]
  · intro i h1 h2
    rw [← row_at h1, ← row_at h2]
    apply Bs.ext_bit
    intro j
    rw [h.bit, M.rows_bit]
    cases hw : M.wtx ps l i j with
    | false => rfl
    | true =>
      obtain ⟨hi, hj⟩ := M.wtx_lt hw
      rw [M.wtx_at ps hi hj] at hw
      unfold prc
      rw [hl, Bool.not_false, Bool.and_true, Bool.true_and]
      have hne : i ≠ j := fun e => by
        subst e
        unfold M.waits at hw
        simp at hw
      have : ∃ p ∈ ps, (p.a = l[i].st ∧ p.b = l[j].st) ∨ (p.a = l[j].st ∧ p.b = l[i].st) := by
        apply Classical.byContradiction
        intro hn
        rw [M.waits_none (fun p hp hh => hn ⟨p, hp, hh⟩)] at hw
        cases hw
      obtain ⟨p, hpp, hh⟩ := this
      refine hc.yes _ _ p hpp ?_
      have i1 := M.idx_at hp hi
      have i2 := M.idx_at hp hj
      unfold M.cpl
      rcases hh with ⟨h3, h4⟩ | ⟨h3, h4⟩
      · rw [h3, h4, i1, i2]
        simp only
        rw [if_neg hne]
      · rw [h3, h4, i1, i2]
        simp only
        rw [if_neg (Ne.symm hne), Nat.min_comm, Nat.max_comm]
theorem RS.new2 {R : List Nat} {ps : List P5} {l : List Mv} {D : DataW Value} {left : Lit → Bool} (h : RS R ps l D left) {a b : Nat} (hab : a < b) (ha : a < R.length) (hl : left (klit a b) = true) (q : Bool) : (Dg.row (arc1 q R a b) b).testBit a = false := by
  rw [arc1_bit ha, (h.new hab hl).2]
  have : ¬ b = a := by omega
  simp [this]
theorem CM.walk {W W' : World} {base bm n r : Nat} {l : List Mv} {ps : List P5} {D : DataW Value} {V : Nat → Nat → Value} (h : CM W base bm n l ps D V) (hg : W.grownBy W' (some r)) (hm : bm ≠ r) {o : Obj} (ho : W.heap[r]? = some o) (hc : o.isCells = false) : CM W' base bm n l ps D V :=
  ⟨h.own.kept hg (fun e => hm (Option.some.inj e)), h.map, h.has, h.hit, h.yes, fun a b => (h.row a b).kept hg (.inr (fun e => Hold.ne_own (b := r) (o := o) ho hc (h.row a b) e.symm)), h.apart⟩
end Go.Proofs.YtpkepgcmifdpfaaGreatDoor
end

section
namespace Go.Proofs.YtpkepgcmifdpfaaGreatDoor
open Go Go.RowKit Go.Maps
set_option maxRecDepth 100000
theorem apart_bm {o : Option Nat} {bm : Nat} (h : ∀ r, o = some r → bm < r) : o = none ∨ o ≠ some bm := by
  cases o with
  | none => exact .inl rfl
  | some r => exact .inr (fun e => by have := h r rfl; have := Option.some.inj e; omega)
theorem news_of_box {w : World} {b : Nat} {cs : Array Value} {t : TypeId} (h : Box w b cs t) {l : List Value} (hl : cs.toList = l) : ∀ (j : Nat) (u : Value), l[j]? = some u → w.cell? ((⟨b, 0, none⟩ : Addr).add j) = some u := by
  subst hl
  intro j u hj
  rw [add_base]
  exact h.cell j (by simpa using hj)
theorem pairInfo : (Tryz.prog.info? 190).map (fun i => (i.zero, i.size, i.bytes)) = some (some (.agg #[.int .i64 0, .int .i64 0, .int .i64 0, .int .i64 0, .int .i64 0]), 5, 40) := by kernel_rfl
theorem zeroPairs (w : World) : (zeroValue 22).run Tryz.prog w = .ok (.slice none 0 0) w := by kernel_rfl
theorem zeroIntG (w : World) : (zeroValue 3).run Tryz.prog w = .ok (.int .i64 0) w := by kernel_rfl
section
variable {P : Program} {ops : Array Oper} {rest : List Oper} {o : Oper} {a : Act} {Q : Exit → Act → World → Prop}
theorem wpList_pos {w : World} (hg : o.guard = none) (m x : Operand) (t : TypeId) (hop : o.op = Op.lookup t m x true)
    (k e : TypeId) (K : Keyed P k) (ht : P.underlying t = some (.map k e)) (he : P.underlying e = some (.int .i64)) (hz : (zeroValue e).run P w = .ok (.int .i64 0) w) (b n : Nat) (D : DataW Unit)
    (hm : a.eval m = .map (some b)) (hown : w.ownsMap P k (plainElem P e) b n D) (key : Value) (kl : Lit) (hx : a.eval x = key) (hkey : keyOf P k key = some kl) (c : Int) (r : Bool) (hr : Maps.has D kl = r) (hc : D.atKey kl (.lit (.int .i64 0)) = .lit (.int .i64 c))
    (hK : wpList P ops Q rest (a.put o.dst (.tuple #[.int .i64 c, .bool r])) w) : wpList P ops Q (o :: rest) a w :=
  wpList_lookup_own_ok_int w hg m x t hop k e .i64 K ht he hz b n D hm hown key kl hx hkey (fun c2 hc2 _ => by
    rw [hc] at hc2
    obtain rfl : c = c2 := by injection hc2 with h1; injection h1
    rw [hr]
    exact hK)
end
theorem PosD.get {D : DataW Unit} {l : List Mv} (h : PosD D l l.length) (st : Int) : ∃ (c : Nat) (r : Bool), Maps.has D (.int .i64 st) = r ∧ D.atKey (.int .i64 st) (.lit (.int .i64 0)) = .lit (.int .i64 c) ∧ (r = true → M.idx l st = some c ∧ c < l.length) ∧ (r = false → M.idx l st = none) := by
  rcases h.look st with ⟨i, hi, hh, ha⟩ | ⟨hn, hh⟩
  · exact ⟨i, true, hh, ha _, fun _ => ⟨hi, (M.idx_some hi).1⟩, (fun h => by cases h)⟩
  · exact ⟨0, false, hh, atKey_of_not_has hh _, (fun h => by cases h), fun _ => hn⟩
theorem M.cpl_of {l : List Mv} {p : P5} {c1 c2 : Nat} {r1 r2 : Bool} (h1 : r1 = true → M.idx l p.a = some c1) (h1' : r1 = false → M.idx l p.a = none) (h2 : r2 = true → M.idx l p.b = some c2) (h2' : r2 = false → M.idx l p.b = none) :
    (r1 = false → M.cpl l p = none) ∧ (r2 = false → M.cpl l p = none) ∧ (r1 = true → r2 = true → c1 = c2 → M.cpl l p = none) ∧ (r1 = true → r2 = true → c1 < c2 → M.cpl l p = some (c1, c2)) ∧ (r1 = true → r2 = true → c2 < c1 → M.cpl l p = some (c2, c1)) := by
  unfold M.cpl
  refine ⟨fun h => by rw [h1' h], fun h => by rw [h2' h]; cases M.idx l p.a <;> rfl, fun a b c => ?_, fun a b c => ?_, fun a b c => ?_⟩
  all_goals
    rw [h1 a, h2 b]
    simp only
  · rw [if_pos c]
  · rw [if_neg (by omega), Nat.min_eq_left (by omega), Nat.max_eq_right (by omega)]
  · rw [if_neg (by omega), Nat.min_eq_right (by omega), Nat.max_eq_left (by omega)]
theorem Box.two {W W' : World} {g bg b : Nat} {cs : Array Value} {t : TypeId} (h : Box W b cs t) (ht : Two W W' g bg) (hb : bg < b) (hg : g < bg) : Box W' b cs t := by
  obtain ⟨w1, h1, h2⟩ := ht
  exact (h.grown h1 (fun e => by have := Option.some.inj e; omega)).grown h2 (fun e => by have := Option.some.inj e; omega)
theorem CM.two {W W' : World} {base bm n g bg : Nat} {l : List Mv} {ps : List P5} {D : DataW Value} {V : Nat → Nat → Value} (h : CM W base bm n l ps D V) (ht : Two W W' g bg) (hb : bg < bm) (hg : g < bg) (hbm : bm < base) : CM W' base bm n l ps D V := by
  obtain ⟨w1, h1, h2⟩ := ht
  exact (h.kept h1 (fun e => by have := Option.some.inj e; omega) (fun r e => by cases e; omega)).kept h2 (fun e => by have := Option.some.inj e; omega) (fun r e => by cases e; omega)
theorem ranges_two {W W' : World} {bm r n g bg : Nat} {D : DataW Value} {left : Lit → Bool} {cnt : Nat} (h : W.ranges Tryz.prog 195 rawE bm r n D left cnt) (ht : Two W W' g bg) (hb : bg < bm) (hg : g < bg) (hr : bm < r) : W'.ranges Tryz.prog 195 rawE bm r n D left cnt := by
  obtain ⟨w1, h1, h2⟩ := ht
  exact (h.kept h1 (fun e => by have := Option.some.inj e; omega) (fun e => by have := Option.some.inj e; omega)).kept h2 (fun e => by have := Option.some.inj e; omega) (fun e => by have := Option.some.inj e; omega)
structure GB (w W : World) (n : Nat) (l : List Mv) (base g bg bp bm : Nat) (Dp : DataW Unit) (R : List Nat) (arcs : Int) : Prop where
  bel : Below w.heap.size w W
  go : GO W base g bg n R arcs
  pos : W.ownsMap Tryz.prog 3 (plainElem (H := Unit) Tryz.prog 3) bp l.length Dp
theorem GB.kept {w W W' : World} {n : Nat} {l : List Mv} {base g bg bp bm : Nat} {Dp : DataW Unit} {R : List Nat} {arcs : Int} (h : GB w W n l base g bg bp bm Dp R arcs) {row : Option Nat} (hg : W.grownBy W' row) (hr : ∀ r, row = some r → bm ≤ r) (ho : bg < bp ∧ bp < bm ∧ w.heap.size ≤ bm) : GB w W' n l base g bg bp bm Dp R arcs :=
  ⟨h.bel.grown hg h.bel.size (fun k e => Nat.le_trans ho.2.2 (hr k e)), ⟨h.go.box.grown hg (fun e => by have := hr _ e.symm; omega), h.go.own.kept hg (.inr (fun e => by have h1 : bm ≤ g := hr g e.symm; have := h.go.far; omega)), h.go.len, h.go.far⟩, h.pos.kept hg (fun e => by have := hr _ e.symm; omega)⟩
theorem GB.next {w W W' : World} {n : Nat} {l : List Mv} {base g bg bp bm : Nat} {Dp : DataW Unit} {R : List Nat} {arcs : Int} (h : GB w W n l base g bg bp bm Dp R arcs) (hb : Below W.heap.size W W') : GB w W' n l base g bg bp bm Dp R arcs :=
  ⟨after_ h.bel hb, h.go.next hb, h.pos.kept (below_grown hb) (by simp)⟩
theorem GB.two {w W W' : World} {n : Nat} {l : List Mv} {base g bg bp bm : Nat} {Dp : DataW Unit} {R R' : List Nat} {arcs arcs' : Int} (h : GB w W n l base g bg bp bm Dp R arcs) (hgo : GO W' base g bg n R' arcs') (ht : Two W W' g bg) (hwg : w.heap.size ≤ g) (ho : bg < bp ∧ bp < bm ∧ w.heap.size ≤ bm) : GB w W' n l base g bg bp bm Dp R' arcs' := by
  obtain ⟨w1, h1, h2⟩ := ht
  have hf := h.go.far
  exact ⟨(h.bel.grown h1 h.bel.size (fun k e => by cases e; exact hwg)).grown h2 (Nat.le_trans h.bel.size h1.size) (fun k e => by cases e; omega), hgo, (h.pos.kept h1 (fun e => by have := Option.some.inj e; omega)).kept h2 (fun e => by have := Option.some.inj e; omega)⟩
set_option maxHeartbeats 64000000 in
theorem graph_ok (PA : Option Addr) (pc np : Nat) (ps : List P5) (LA : Option Addr) (lc : Nat) (l : List Mv) (w : World) (hnp : np = ps.length) (hP : Sl 5 p5cell w w.heap.size PA ps) (hL : Sl 6 mvcell w w.heap.size LA l) (hl : l.length ≤ 9223372036854775806) (hw : ∀ p ∈ ps, M.W64 p.a ∧ M.W64 p.b) :
    Calls Tryz.prog 95 #[.slice PA np pc, .slice LA l.length lc] w fun e w' => (∃ er, M.errIs ps l er ∧ ((er ≠ 0 ∧ e = .returned (.tuple #[.pointer none, .int .i64 er])) ∨ (er = 0 ∧ ∃ g bg arcs, e = .returned (.tuple #[gp bg, .int .i64 0]) ∧ w.heap.size ≤ g ∧ GO w' w.heap.size g bg l.length (M.rows ps l) arcs))) ∧ Below w.heap.size w w' := by
  have HNP := Lib.hid hnp
  have kC := dpCheck_ok PA pc np ps LA lc l w hnp hL hl
  obtain ⟨i5, hi5, hz50, hz51, hz52⟩ := info_parts pairInfo
  have Hi := Lib.hid hi5; have Hz0 := Lib.hid hz50; have Hz1 := Lib.hid hz51; have Hz2 := Lib.hid hz52
  clear hi5 hz50 hz51 hz52 hnp
  go_enter Tryz.func95, Tryz.ntmps95
  go_wp2_with fail
  refine kC.mono ?_
  rintro e w1 ⟨⟨er, rfl, her⟩, hb1⟩
  clear kC
  have HER := Lib.hid her
  clear her
  by_cases he0 : er ≠ 0
  · have q0 : (er == 0) = false := by simpa using he0
    have q1 : (er != 0) = true := by simpa using he0
    have HE0 := Lib.hid he0
    clear he0
    go_wp2_with fail
    go_ret2
    exact ⟨⟨er, HER.out, .inl ⟨HE0.out, rfl⟩⟩, hb1⟩
  obtain rfl : er = 0 := by omega
  clear he0
  have HMO : Hid (M.mvsOk l ∧ ps.length ≤ 20000) := Lib.hid (by
    rcases HER.out with ⟨h1, h2, -⟩ | ⟨-, -, h⟩ | ⟨-, h⟩
    · exact ⟨h1, h2⟩
    · cases h
    · cases h)
  have hl512 := HMO.out.1.1
  have hp2 := HMO.out.2
  go_wp2_with fail
  refine (dgNew_ok l.length w1 hl512).mono ?_
  rintro e w2 ⟨bg, g, rfl, hg1, hgb, xg, og, hb2⟩
  have B2 := after_ hb1 hb2
  go_wp2_with fail
  refine (positions_ok LA lc l w2 ((hL.below B2).more B2.size) HMO.out.1).mono ?_
  rintro e w3 ⟨bp, Dp, rfl, hbp, hpos, hPD, hb3⟩
  have HPD := Lib.hid hPD
  clear hPD
  have B3 := after_ B2 hb3
  have hlg := xg.lt
  have hmm := @run_makeMap Tryz.prog
  obtain ⟨U, HU⟩ : ∃ U, Hid (w3.alloc (.map #[] 0) = U) := ⟨_, Lib.hid rfl⟩
  have hU := HU.out
  have hbU : Below w3.heap.size w3 U := by rw [← hU]; exact (Below.refl _ _).alloc (Nat.le_refl _) _
  have BU := after_ B3 hbU
  have hsU : Hid (U.heap.size = w3.heap.size + 1) := Lib.hid (by rw [← hU]; simp)
  have hownU : U.ownsMap Tryz.prog 195 rawE w3.heap.size 0 (.map []) := by rw [← hU]; exact World.ownsMap_made _ _ _ _
  have go0 : GO U w.heap.size g bg l.length (List.replicate l.length 0) 0 := GO.next ⟨xg.below hb3, own_below (own_base og hb1.size) hb3, by simp, hgb⟩ hbU
  have gb0 : GB w U l.length l w.heap.size g bg bp w3.heap.size Dp (List.replicate l.length 0) 0 := ⟨BU, go0, hpos.kept (below_grown hbU) (by simp)⟩
  have hord : Hid (bg < bp ∧ bp < w3.heap.size ∧ w.heap.size ≤ w3.heap.size) := Lib.hid ⟨by omega, hpos.lt, B3.size⟩
  have hwg : w.heap.size ≤ g := Nat.le_trans hb1.size hg1
  have cm0 : CM U (w3.heap.size + 1) w3.heap.size 0 l (ps.take 0) (.map []) (fun _ _ => .slice none 0 0) := CM.start hownU l
  go_wp2_with fail
  clear hU hmm hownU go0 xg og hpos
  generalize w3.heap.size = bm at *
  go_loopw [41] (fun i wr => ∃ (k nn : Nat) (D : DataW Value) (V : Nat → Nat → Value), k ≤ np ∧ nn ≤ k ∧ i = .int .i64 k ∧ bm < wr.heap.size ∧ GB w wr l.length l w.heap.size g bg bp bm Dp (List.replicate l.length 0) 0 ∧ Hid (CM wr (bm + 1) bm nn l (ps.take k) D V)) (fun i _ => np - (intOf i).toNat)
  case atStart => exact ⟨0, 0, .map [], _, Nat.zero_le _, Nat.le_refl _, rfl, by rw [hsU.out]; omega, gb0, Lib.hid cm0⟩
  case round =>
    clear gb0 cm0
    obtain ⟨k, nn, D, V, hk, hnn, rfl, hsz, gb, HCM⟩ := hrel
    by_cases hlt : k < np
    · have hkp : k < ps.length := by rw [← HNP.out]; exact hlt
      have BW := gb.bel
      obtain ⟨la, hla, hlb, a0, a1, a2, a3, a4⟩ := ((hP.below BW).more BW.size).p5s hkp
      have HTK : Hid (ps.take (k + 1) = ps.take k ++ [ps[k]]) := Lib.hid (List.take_succ_eq_append_getElem hkp)
      have HW := Lib.hid (hw ps[k] (List.getElem_mem hkp))
      have x0 : (0 : Int) ≤ (k : Int) := by omega
      have x1 : (k : Int) < (np : Int) := by omega
      have q0 : decide ((k : Int) < (np : Int)) = true := decide_eq_true x1
      generalize ps[k] = p at *
      obtain ⟨c1, r1, hh1, ha1, hy1, hn1⟩ := HPD.out.get p.a
      obtain ⟨c2, r2, hh2, ha2, hy2, hn2⟩ := HPD.out.get p.b
      have HCP := Lib.hid (M.cpl_of (fun h => (hy1 h).1) hn1 (fun h => (hy2 h).1) hn2)
      have HH1 := Lib.hid hh1; have HA1 := Lib.hid ha1; have HH2 := Lib.hid hh2; have HA2 := Lib.hid ha2
      have hck1 : r1 = true → c1 < l.length := fun h => (hy1 h).2
      have hck2 : r2 = true → c2 < l.length := fun h => (hy2 h).2
      clear hh1 ha1 hh2 ha2 hy1 hn1 hy2 hn2
      have HK1 := Lib.hid (Maps.keyOf_int_mk (P := Tryz.prog) Tryz.underlying3 (wf64 HW.out.1))
      have HK2 := Lib.hid (Maps.keyOf_int_mk (P := Tryz.prog) Tryz.underlying3 (wf64 HW.out.2))
      obtain ⟨X, HX, u0, hbX, hsX⟩ := boxes1 wr (p5c p) 190
      have gX := gb.next hbX
      have HCX : Hid (CM X (bm + 1) bm nn l (ps.take k) D V) := Lib.hid (HCM.out.next hbX)
      have hszX : bm < X.heap.size := Nat.lt_of_lt_of_le hsz hbX.size
      obtain ⟨u1, u2, u3, u4, u5⟩ := u0.c5'
      subst hla
      clear hsX
      have hX := HX.out
      cases r1 with
      | false =>
        have HS : Hid (M.cpl l p = none) := Lib.hid (HCP.out.1 rfl)
        have HC' : Hid (CM X (bm + 1) bm nn l (ps.take (k + 1)) D V) := Lib.hid (by rw [HTK.out]; exact HCX.out.skip HS.out)
        go_wp2_with (first
          | (at_lookup; refine wpList_pos rfl _ _ 129 rfl 3 3 (Maps.int_keyed Tryz.underlying3) Tryz.underlying129 Tryz.underlying3 (zeroIntG _) bp l.length Dp rfl gX.pos (.int .i64 p.a) _ rfl HK1.out c1 false HH1.out HA1.out ?_)
          | (at_lookup; refine wpList_pos rfl _ _ 129 rfl 3 3 (Maps.int_keyed Tryz.underlying3) Tryz.underlying129 Tryz.underlying3 (zeroIntG _) bp l.length Dp rfl gX.pos (.int .i64 p.b) _ rfl HK2.out c2 r2 HH2.out HA2.out ?_))
        go_roundw
        case rel => exact ⟨k + 1, nn, D, V, hlt, by omega, by go_num, hszX, gX, HC'⟩
        case measure => simp [intOf]; omega
      | true =>
        cases r2 with
        | false =>
          have HS : Hid (M.cpl l p = none) := Lib.hid (HCP.out.2.1 rfl)
          have HC' : Hid (CM X (bm + 1) bm nn l (ps.take (k + 1)) D V) := Lib.hid (by rw [HTK.out]; exact HCX.out.skip HS.out)
          go_wp2_with (first
            | (at_lookup; refine wpList_pos rfl _ _ 129 rfl 3 3 (Maps.int_keyed Tryz.underlying3) Tryz.underlying129 Tryz.underlying3 (zeroIntG _) bp l.length Dp rfl gX.pos (.int .i64 p.a) _ rfl HK1.out c1 true HH1.out HA1.out ?_)
            | (at_lookup; refine wpList_pos rfl _ _ 129 rfl 3 3 (Maps.int_keyed Tryz.underlying3) Tryz.underlying129 Tryz.underlying3 (zeroIntG _) bp l.length Dp rfl gX.pos (.int .i64 p.b) _ rfl HK2.out c2 false HH2.out HA2.out ?_))
          go_roundw
          case rel => exact ⟨k + 1, nn, D, V, hlt, by omega, by go_num, hszX, gX, HC'⟩
          case measure => simp [intOf]; omega
        | true =>
          have hc1 := hck1 rfl
          have hc2 := hck2 rfl
          clear hck1 hck2
          rcases Nat.lt_trichotomy c1 c2 with hcc | hcc | hcc
          rotate_left
          · have q1 : ((c1 : Int) == (c2 : Int)) = true := by simpa using (by omega : (c1 : Int) = (c2 : Int))
            have q2 : ((c1 : Int) != (c2 : Int)) = false := by simpa using (by omega : (c1 : Int) = (c2 : Int))
            have HS : Hid (M.cpl l p = none) := Lib.hid (HCP.out.2.2.1 rfl rfl hcc)
            have HC' : Hid (CM X (bm + 1) bm nn l (ps.take (k + 1)) D V) := Lib.hid (by rw [HTK.out]; exact HCX.out.skip HS.out)
            clear hcc
            go_wp2_with (first
              | (at_lookup; refine wpList_pos rfl _ _ 129 rfl 3 3 (Maps.int_keyed Tryz.underlying3) Tryz.underlying129 Tryz.underlying3 (zeroIntG _) bp l.length Dp rfl gX.pos (.int .i64 p.a) _ rfl HK1.out c1 true HH1.out HA1.out ?_)
              | (at_lookup; refine wpList_pos rfl _ _ 129 rfl 3 3 (Maps.int_keyed Tryz.underlying3) Tryz.underlying129 Tryz.underlying3 (zeroIntG _) bp l.length Dp rfl gX.pos (.int .i64 p.b) _ rfl HK2.out c2 true HH2.out HA2.out ?_))
            go_roundw
            case rel => exact ⟨k + 1, nn, D, V, hlt, by omega, by go_num, hszX, gX, HC'⟩
            case measure => simp [intOf]; omega
          · have q1 : ((c1 : Int) == (c2 : Int)) = false := by simpa using (by omega : ¬ (c1 : Int) = (c2 : Int))
            have q2 : ((c1 : Int) != (c2 : Int)) = true := by simpa using (by omega : ¬ (c1 : Int) = (c2 : Int))
            have hmn : min (c1 : Int) (c2 : Int) = (c2 : Int) := by omega
            have hmx : max (c1 : Int) (c2 : Int) = (c1 : Int) := by omega
            have HS : Hid (M.cpl l p = some (c2, c1)) := Lib.hid (HCP.out.2.2.2.2 rfl rfl hcc)
            obtain ⟨Y, HY, u7, hbY, hsY⟩ := boxes1 X #[.int .i64 (c2 : Int), .int .i64 (c1 : Int)] 195
            obtain ⟨Z, HZ, u9, hbZ, hsZ⟩ := boxes1 Y (p5c p) 190
            have hbXZ := after_ hbY hbZ
            have gZ := gX.next hbXZ
            have HCZ := Lib.hid (HCX.out.next hbXZ)
            obtain ⟨v0, st, w4, hrun, hg4, hs4, hv0, hback⟩ := entry_own HCZ.out.own coupleLaw Tryz.underlying193 zeroPairs (by unfold maxLen; omega) (key := cpv c2 c1) (couple_key (by omega) (by omega))
            rw [HCZ.out.hit c2 c1 (by omega) (by omega)] at hv0
            obtain rfl : V c2 c1 = v0 := by injection hv0
            have HBK := Lib.hid hback
            have HS4 := Lib.hid hs4
            clear hv0 hback hs4 hsY hsZ
            obtain ⟨d0, d1⟩ := u7.c2
            obtain ⟨t1, t2, t3, t4, t5⟩ := (u0.below hbY).c5'
            have HVL : Hid (∀ r, (V c2 c1).ownBlock = some r → bm < r) := Lib.hid (fun r e => ((HCZ.out.row c2 c1).lt r e).1)
            have HVB : Hid (∀ r, (V c2 c1).ownBlock = some r → r ≠ bm) := Lib.hid (fun r e => by have := HVL.out r e; omega)
            have HVB : Hid ((V c2 c1).ownBlock = some bm → False) := Lib.hid (fun e => HVB.out _ e rfl)
            have HR4 : Hid (w4.ownsRow (bm + 1) 190 5 (V c2 c1) (M.sel l (ps.take k) c2 c1).length (flat 5 p5cell (M.sel l (ps.take k) c2 c1))) := Lib.hid ((HCZ.out.row c2 c1).kept hg4 (apart_bm (fun r e => HVL.out r e)))
            have HNW : Hid (∀ (j : Nat) (u : Value), ((List.range 5).map (p5cell p))[j]? = some u → w4.cell? ((⟨Y.heap.size, 0, none⟩ : Addr).add j) = some u) := Lib.hid (news_of_box (u9.grown hg4 (fun e => by have := Option.some.inj e; have := hbY.size; omega)) rfl)
            have HSL : Hid ((M.sel l (ps.take k) c2 c1).length ≤ 20000) := Lib.hid (by have := M.sel_len l (ps.take k) c2 c1; have := List.length_take_le k ps; omega)
            have hY := HY.out
            have hZ := HZ.out
            go_wp2_with (first
              | (at_lookup; refine wpList_pos rfl _ _ 129 rfl 3 3 (Maps.int_keyed Tryz.underlying3) Tryz.underlying129 Tryz.underlying3 (zeroIntG _) bp l.length Dp rfl gX.pos (.int .i64 p.a) _ rfl HK1.out c1 true HH1.out HA1.out ?_)
              | (at_lookup; refine wpList_pos rfl _ _ 129 rfl 3 3 (Maps.int_keyed Tryz.underlying3) Tryz.underlying129 Tryz.underlying3 (zeroIntG _) bp l.length Dp rfl gX.pos (.int .i64 p.b) _ rfl HK2.out c2 true HH2.out HA2.out ?_)
              | (at_builtin; (refine wpList_append_own_at w4 rfl _ _ 22 rfl (bm + 1) 190 i5 _ 5 40 Tryz.underlying22 Hi.out Hz0.out Hz1.out Hz2.out rfl (by decide) (V c2 c1) _ _ rfl HR4.out ⟨Y.heap.size, 0, none⟩ 1 1 ((List.range 5).map (p5cell p)) rfl rfl HNW.out (fun u hu => by obtain ⟨j, _, rfl⟩ := List.mem_map.1 hu; exact p5_one p j) (by unfold maxLen; have := HSL.out; omega) (by have := HSL.out; omega) (by have := HS4.out; have := hbXZ.size; omega) ?_; intro v' w5 hown5 hg5 _ hloc5; obtain ⟨w6, hst, hown6, hg6⟩ := HBK.out w5 v' (hg5.block bm (by have := HS4.out; have := hbXZ.size; omega) (fun e => HVB.out e.symm)); replace hst : (Instr.entryStore 193 (.map (some bm)) (.int .i64 (st : Int)) v').run Tryz.prog w5 = .ok () w6 := hst; have HLOC := Lib.hid hloc5; clear hloc5)))
            have HCN : Hid (CM w6 (bm + 1) bm (nn + 1) l (ps.take (k + 1)) (D.put (klit c2 c1) (.held v')) (fun c d => if (c, d) = (c2, c1) then v' else V c d)) := Lib.hid (by
              rw [HTK.out]
              refine HCZ.out.put (Nat.lt_succ_self _) hl512 HS.out hg4 hg5 ?_ (fun g' hg' => ?_) hown6 hg6
              · rw [flat_append, flat_one]; exact hown5
              · rcases HLOC.out with h1 | h1
                · exact .inl (h1 ▸ hg')
                · rw [h1] at hg'
                  right
                  have := Option.some.inj hg'
                  have := HS4.out
                  omega)
            have g6 := ((gZ.kept hg4 (fun r e => by cases e; exact Nat.le_refl _) hord.out).kept hg5 (fun r e => Nat.le_of_lt (HVL.out r e)) hord.out).kept hg6 (fun r e => by cases e; exact Nat.le_refl _) hord.out
            have hsz6 : bm < w6.heap.size := by have := HS4.out; have := hbXZ.size; have := hg5.size; have := hg6.size; omega
            go_roundw
            case rel => exact ⟨k + 1, nn + 1, _, _, hlt, by omega, by go_num, hsz6, g6, HCN⟩
            case measure => simp [intOf]; omega
          · have q1 : ((c1 : Int) == (c2 : Int)) = false := by simpa using (by omega : ¬ (c1 : Int) = (c2 : Int))
            have q2 : ((c1 : Int) != (c2 : Int)) = true := by simpa using (by omega : ¬ (c1 : Int) = (c2 : Int))
            have hmn : min (c1 : Int) (c2 : Int) = (c1 : Int) := by omega
            have hmx : max (c1 : Int) (c2 : Int) = (c2 : Int) := by omega
            have HS : Hid (M.cpl l p = some (c1, c2)) := Lib.hid (HCP.out.2.2.2.1 rfl rfl hcc)
            obtain ⟨Y, HY, u7, hbY, hsY⟩ := boxes1 X #[.int .i64 (c1 : Int), .int .i64 (c2 : Int)] 195
            obtain ⟨Z, HZ, u9, hbZ, hsZ⟩ := boxes1 Y (p5c p) 190
            have hbXZ := after_ hbY hbZ
            have gZ := gX.next hbXZ
            have HCZ := Lib.hid (HCX.out.next hbXZ)
            obtain ⟨v0, st, w4, hrun, hg4, hs4, hv0, hback⟩ := entry_own HCZ.out.own coupleLaw Tryz.underlying193 zeroPairs (by unfold maxLen; omega) (key := cpv c1 c2) (couple_key (by omega) (by omega))
            rw [HCZ.out.hit c1 c2 (by omega) (by omega)] at hv0
            obtain rfl : V c1 c2 = v0 := by injection hv0
            have HBK := Lib.hid hback
            have HS4 := Lib.hid hs4
            clear hv0 hback hs4 hsY hsZ
            obtain ⟨d0, d1⟩ := u7.c2
            obtain ⟨t1, t2, t3, t4, t5⟩ := (u0.below hbY).c5'
            have HVL : Hid (∀ r, (V c1 c2).ownBlock = some r → bm < r) := Lib.hid (fun r e => ((HCZ.out.row c1 c2).lt r e).1)
            have HVB : Hid (∀ r, (V c1 c2).ownBlock = some r → r ≠ bm) := Lib.hid (fun r e => by have := HVL.out r e; omega)
            have HVB : Hid ((V c1 c2).ownBlock = some bm → False) := Lib.hid (fun e => HVB.out _ e rfl)
            have HR4 : Hid (w4.ownsRow (bm + 1) 190 5 (V c1 c2) (M.sel l (ps.take k) c1 c2).length (flat 5 p5cell (M.sel l (ps.take k) c1 c2))) := Lib.hid ((HCZ.out.row c1 c2).kept hg4 (apart_bm (fun r e => HVL.out r e)))
            have HNW : Hid (∀ (j : Nat) (u : Value), ((List.range 5).map (p5cell p))[j]? = some u → w4.cell? ((⟨Y.heap.size, 0, none⟩ : Addr).add j) = some u) := Lib.hid (news_of_box (u9.grown hg4 (fun e => by have := Option.some.inj e; have := hbY.size; omega)) rfl)
            have HSL : Hid ((M.sel l (ps.take k) c1 c2).length ≤ 20000) := Lib.hid (by have := M.sel_len l (ps.take k) c1 c2; have := List.length_take_le k ps; omega)
            have hY := HY.out
            have hZ := HZ.out
            go_wp2_with (first
              | (at_lookup; refine wpList_pos rfl _ _ 129 rfl 3 3 (Maps.int_keyed Tryz.underlying3) Tryz.underlying129 Tryz.underlying3 (zeroIntG _) bp l.length Dp rfl gX.pos (.int .i64 p.a) _ rfl HK1.out c1 true HH1.out HA1.out ?_)
              | (at_lookup; refine wpList_pos rfl _ _ 129 rfl 3 3 (Maps.int_keyed Tryz.underlying3) Tryz.underlying129 Tryz.underlying3 (zeroIntG _) bp l.length Dp rfl gX.pos (.int .i64 p.b) _ rfl HK2.out c2 true HH2.out HA2.out ?_)
              | (at_builtin; (refine wpList_append_own_at w4 rfl _ _ 22 rfl (bm + 1) 190 i5 _ 5 40 Tryz.underlying22 Hi.out Hz0.out Hz1.out Hz2.out rfl (by decide) (V c1 c2) _ _ rfl HR4.out ⟨Y.heap.size, 0, none⟩ 1 1 ((List.range 5).map (p5cell p)) rfl rfl HNW.out (fun u hu => by obtain ⟨j, _, rfl⟩ := List.mem_map.1 hu; exact p5_one p j) (by unfold maxLen; have := HSL.out; omega) (by have := HSL.out; omega) (by have := HS4.out; have := hbXZ.size; omega) ?_; intro v' w5 hown5 hg5 _ hloc5; obtain ⟨w6, hst, hown6, hg6⟩ := HBK.out w5 v' (hg5.block bm (by have := HS4.out; have := hbXZ.size; omega) (fun e => HVB.out e.symm)); replace hst : (Instr.entryStore 193 (.map (some bm)) (.int .i64 (st : Int)) v').run Tryz.prog w5 = .ok () w6 := hst; have HLOC := Lib.hid hloc5; clear hloc5)))
            have HCN : Hid (CM w6 (bm + 1) bm (nn + 1) l (ps.take (k + 1)) (D.put (klit c1 c2) (.held v')) (fun c d => if (c, d) = (c1, c2) then v' else V c d)) := Lib.hid (by
              rw [HTK.out]
              refine HCZ.out.put (Nat.lt_succ_self _) hl512 HS.out hg4 hg5 ?_ (fun g' hg' => ?_) hown6 hg6
              · rw [flat_append, flat_one]; exact hown5
              · rcases HLOC.out with h1 | h1
                · exact .inl (h1 ▸ hg')
                · rw [h1] at hg'
                  right
                  have := Option.some.inj hg'
                  have := HS4.out
                  omega)
            have g6 := ((gZ.kept hg4 (fun r e => by cases e; exact Nat.le_refl _) hord.out).kept hg5 (fun r e => Nat.le_of_lt (HVL.out r e)) hord.out).kept hg6 (fun r e => by cases e; exact Nat.le_refl _) hord.out
            have hsz6 : bm < w6.heap.size := by have := HS4.out; have := hbXZ.size; have := hg5.size; have := hg6.size; omega
            go_roundw
            case rel => exact ⟨k + 1, nn + 1, _, _, hlt, by omega, by go_num, hsz6, g6, HCN⟩
            case measure => simp [intOf]; omega
    · obtain rfl : k = np := by omega
      have q0 : decide ((k : Int) < (k : Int)) = false := decide_eq_false (by omega)
      have HC0 : Hid (CM wr (bm + 1) bm nn l ps D V) := Lib.hid (by have := HCM.out; rwa [HNP.out, List.take_length] at this)
      clear HCM
      have hmf : ∀ (fn : Fn) (first cap : Array Value) (w : World), (Instr.makeFunc fn first cap).run Tryz.prog w = .ok (.func fn first cap) w := fun _ _ _ _ => rfl
      go_wp2_with (at_range; refine wpList_range_own _ rfl _ 193 rfl 195 22 coupleKeyed Tryz.underlying193 rawE bm nn D rfl HC0.out.own ?_; intro wR hrgR hgR hsR)
      clear hmf
      go_frame
      have HSR := Lib.hid hsR
      clear hsR
      have gR := gb.kept (row := none) hgR (fun r e => by cases e) hord.out
      have HCR : Hid (CM wR (bm + 1) bm nn l ps D V) := Lib.hid (HC0.out.kept hgR (by simp) (fun r e => by cases e))
      have hsz0 : Maps.size D ≤ nn := by
        have := HC0.out.own
        obtain ⟨es, clock, hb, F, hs, rfl⟩ := this
        rw [Maps.size_eq, length_read]
        exact hs
      have hnp2 : k ≤ 20000 := by rw [HNP.out]; exact hp2
      clear gb HC0
      generalize wr.heap.size = r0 at *
      go_loopw [88] (fun _ wr => ∃ (left : Lit → Bool) (cnt : Nat) (R : List Nat) (arcs : Int), wr.ranges Tryz.prog 195 rawE bm r0 nn D left cnt ∧ GB w wr l.length l w.heap.size g bg bp bm Dp R arcs ∧ Hid (CM wr (bm + 1) bm nn l ps D V) ∧ Hid (RS R ps l D left) ∧ Hid (∀ kl, left kl = true → Maps.has D kl = true) ∧ 0 ≤ arcs ∧ arcs + 2 * cnt ≤ 40000) (fun _ wr => wr.rangeLeft bm r0)
      case atStart => exact ⟨_, _, _, _, hrgR, gR, HCR, Lib.hid (RS.start ps l D), Lib.hid (fun kl h => h), Int.le_refl _, by omega⟩
      case round =>
        clear hrgR gR HCR hgR
        obtain ⟨left, cnt, R, arcs, hrg, gb, HC, HRS, HLF, hac0, hac1⟩ := hrel
        have hr0 : bm < r0 := hsz
        go_wp2_with (at_next; refine wpList_next_ranges _ rfl _ rfl 195 coupleKeyed rawE id id (fun key kl h => ⟨key, rfl⟩) (fun v y h => ⟨v, rfl⟩) bm r0 nn D left cnt rfl hrg ?hDone ?hMore)
        case hDone =>
          intro hc0 hl0
          have HR : Hid (R = M.rows ps l) := Lib.hid (HRS.out.done HC.out HMO.out.1.2.2 hl0)
          clear hl0
          go_wp2_with fail
          go_ret2
          exact ⟨⟨0, HER.out, .inr ⟨rfl, g, bg, arcs, rfl, hwg, by rw [← HR.out]; exact gb.go⟩⟩, gb.bel⟩
        case hMore =>
          intro x c kl y1 y2 w4 cnt2 hkey hleft hR hat hrg4 hlt4 hg4 hs4 hen
          have hhas := HLF.out kl hleft
          obtain ⟨a, b, p, hpp, hcp, rfl⟩ := HC.out.has kl hhas
          obtain ⟨hab, hbl⟩ := M.cpl_lt hcp
          have hal : a < l.length := by omega
          have hx : x = cpv a b := coupleKeyed.inj hkey (couple_key (by omega) (by omega))
          have hcV : V a b = c := by
            unfold rawE at hR
            have h1 := hat (.held (.slice none 0 0))
            rw [HC.out.hit a b (by omega) (by omega)] at h1
            have h2 := (Prod.mk.inj (Option.some.inj hR)).1
            rw [← h2] at h1
            injection h1
          obtain ⟨o, ho, hwk⟩ := hrg.iter_walk
          have HC4 : Hid (CM w4 (bm + 1) bm nn l ps D V) := Lib.hid (HC.out.walk hg4 (by omega) ho (Obj.not_cells_of_walk hwk))
          have gb4 := gb.kept hg4 (fun r e => by cases e; omega) hord.out
          have h4r : r0 < w4.heap.size := hrg4.lt
          obtain ⟨A9, c9, hV9, -⟩ := own_slice (by decide) (HC4.out.row a b)
          have HS9 : Hid (∀ W9, CM W9 (bm + 1) bm nn l ps D V → Sl 5 p5cell W9 W9.heap.size A9 (M.sel l ps a b)) := Lib.hid (fun W9 h9 => by have := h9.row a b; rw [hV9] at this; exact Sl.of_own (by decide) this)
          have hcc : c = .slice A9 (M.sel l ps a b).length c9 := hcV.symm.trans hV9
          have HST : Hid (Hid (left (klit a b) = true) ∧ Maps.has D (klit a b) = true) := Lib.hid ⟨Lib.hid hleft, hhas⟩
          have HLF4 : Hid (∀ kl, (left kl && !kl.sameKey (klit a b)) = true → Maps.has D kl = true) := Lib.hid (fun kl h => by rw [Bool.and_eq_true] at h; exact HLF.out kl h.1)
          clear hat hR hkey hcp hpp ho hwk hcV hV9 hleft hhas hg4 hs4 o HC HLF
          subst hx hcc
          try dsimp only [id] at hen
          try dsimp only [id]
          obtain ⟨m1, hm1⟩ : ∃ m1, (M.sel l ps a b).length = m1 := ⟨_, rfl⟩
          obtain ⟨X, HX, u19, hbX, hsX⟩ := boxes1 w4 #[.int .i64 (a : Int), .int .i64 (b : Int)] 195
          clear hsX
          have gX := gb4.next hbX
          have HCX : Hid (CM X (bm + 1) bm nn l ps D V) := Lib.hid (HC4.out.next hbX)
          have hrX := hrg4.kept (below_grown hbX) (by simp) (by simp)
          obtain ⟨la, hla, hlb, a0, a1, a2, a3, a4, a5⟩ := ((hL.below gX.bel).more gX.bel.size).mv6 hal
          obtain ⟨la2, hla2, hlb2, b0, b1, b2, b3, b4, b5⟩ := ((hL.below gX.bel).more gX.bel.size).mv6 hbl
          obtain rfl : la = la2 := Option.some.inj (hla.symm.trans hla2)
          have HMV : Hid (∀ W9, Below w.heap.size w W9 → (W9.cell? (la.add (a * 6)) = some (.int .i64 l[a].st) ∧ W9.cell? ⟨(la.add (a * 6)).block, (la.add (a * 6)).off + 1, none⟩ = some (.int .i64 l[a].old) ∧ W9.cell? ⟨(la.add (a * 6)).block, (la.add (a * 6)).off + 2, none⟩ = some (.int .i64 l[a].new) ∧ W9.cell? ⟨(la.add (a * 6)).block, (la.add (a * 6)).off + 3, none⟩ = some (.int .i64 l[a].tw) ∧ W9.cell? ⟨(la.add (a * 6)).block, (la.add (a * 6)).off + 4, none⟩ = some (.int .i64 l[a].cr) ∧ W9.cell? ⟨(la.add (a * 6)).block, (la.add (a * 6)).off + 5, none⟩ = some (.int .i64 l[a].wk)) ∧ (W9.cell? (la.add (b * 6)) = some (.int .i64 l[b].st) ∧ W9.cell? ⟨(la.add (b * 6)).block, (la.add (b * 6)).off + 1, none⟩ = some (.int .i64 l[b].old) ∧ W9.cell? ⟨(la.add (b * 6)).block, (la.add (b * 6)).off + 2, none⟩ = some (.int .i64 l[b].new) ∧ W9.cell? ⟨(la.add (b * 6)).block, (la.add (b * 6)).off + 3, none⟩ = some (.int .i64 l[b].tw) ∧ W9.cell? ⟨(la.add (b * 6)).block, (la.add (b * 6)).off + 4, none⟩ = some (.int .i64 l[b].cr) ∧ W9.cell? ⟨(la.add (b * 6)).block, (la.add (b * 6)).off + 5, none⟩ = some (.int .i64 l[b].wk)) ∧ (la.add (a * 6)).block < W9.heap.size ∧ (la.add (b * 6)).block < W9.heap.size) := Lib.hid (fun W9 h9 => by
            obtain ⟨l1, hl1, hlb1, c0⟩ := ((hL.below h9).more h9.size).mv6 hal
            obtain ⟨l2, hl2, hlb2, d0⟩ := ((hL.below h9).more h9.size).mv6 hbl
            obtain rfl : la = l1 := Option.some.inj (hla.symm.trans hl1)
            obtain rfl : la = l2 := Option.some.inj (hla.symm.trans hl2)
            exact ⟨c0, d0, hlb1, hlb2⟩)
          obtain ⟨w1q, w2q⟩ := M.sel_waits HMO.out.1.2.2 ps hab hbl
          obtain ⟨q1, hq1⟩ : ∃ q1, M.waits ps l[a] l[b] = q1 := ⟨_, rfl⟩
          obtain ⟨q2, hq2⟩ : ∃ q2, M.waits ps l[b] l[a] = q2 := ⟨_, rfl⟩
          rw [hq1] at w1q
          rw [hq2] at w2q
          have HRS2 : Hid (RS (arc1 q2 (arc1 q1 R a b) b a) ps l D (fun z => left z && !z.sameKey (klit a b))) := Lib.hid (HRS.out.step hl512 hab hbl HST.out.1.out HST.out.2 hq1 hq2)
          have HN1 := Lib.hid (HRS.out.new hab HST.out.1.out).1
          have HN2 : Hid (∀ q, (Dg.row (arc1 q R a b) b).testBit a = false) := Lib.hid (HRS.out.new2 hab (by rw [HRS.out.len]; exact hal) HST.out.1.out)
          have HSM : Hid (m1 ≤ 20000) := Lib.hid (by have := M.sel_len l ps a b; omega)
          have HW1 : Hid (∀ W9, CM W9 (bm + 1) bm nn l ps D V → Calls Tryz.prog 118 #[.slice A9 m1 c9, mvv l[a], mvv l[b]] W9 fun e w' => e = .returned (.bool q1) ∧ Below W9.heap.size W9 w') := Lib.hid (fun W9 h9 => by
            have := waits_ok A9 c9 (M.sel l ps a b) l[a] l[b] W9 (HS9.out W9 h9) (by have := M.sel_len l ps a b; omega)
            rw [w1q, hm1] at this
            exact this)
          have HW2 : Hid (∀ W9, CM W9 (bm + 1) bm nn l ps D V → Calls Tryz.prog 118 #[.slice A9 m1 c9, mvv l[b], mvv l[a]] W9 fun e w' => e = .returned (.bool q2) ∧ Below W9.heap.size W9 w') := Lib.hid (fun W9 h9 => by
            have := waits_ok A9 c9 (M.sel l ps a b) l[b] l[a] W9 (HS9.out W9 h9) (by have := M.sel_len l ps a b; omega)
            rw [w2q, hm1] at this
            exact this)
          rw [hm1] at hen
          try rw [hm1]
          clear hq1 hq2 w1q w2q hm1 hla2 hlb2 HST
          generalize l[a] = ma at *
          generalize l[b] = mb at *
          have HLA := Lib.hid hla
          subst hla
          have y0 : (0 : Int) ≤ (a : Int) := by omega
          have y1 : (a : Int) < (l.length : Int) := by omega
          have y2 : (0 : Int) ≤ (b : Int) := by omega
          have y3 : (b : Int) < (l.length : Int) := by omega
          obtain ⟨-, -, lba, lbb⟩ := HMV.out X gX.bel
          have l19 := u19.lt
          obtain ⟨d0, d1⟩ := u19.c2
          have hX := HX.out
          go_wp2_with fail
          clear hX hen
          have kW1 : Hid (∀ u : Kept X.heap.size X, Calls Tryz.prog 118 #[.slice A9 m1 c9, mvv ma, mvv mb] u.val fun e w' => e = .returned (.bool q1) ∧ Below u.val.heap.size u.val w') := Lib.hid (fun u => HW1.out u.val (HCX.out.next u.h))
          refine wp_region_kept X.heap.size X (by kernel_rfl) (by kernel_rfl) (Below.refl _ _) ?_
          repeat (go_big_quiet_step ((go_at_call 118; exact Kept.calls (Nat.le_refl _) (kW1.out _))))
          refine wpQuiet_nil ?_
          rintro w5 ⟨⟨_, hb5⟩, rfl⟩
          clear a0 a1 a2 a3 a4 a5 b0 b1 b2 b3 b4 b5 d0 d1
          have g5 := gX.next hb5
          have HC5 : Hid (CM w5 (bm + 1) bm nn l ps D V) := Lib.hid (HCX.out.next hb5)
          have hr5 := hrX.kept (below_grown hb5) (by simp) (by simp)
          have u5 := u19.below hb5
          clear gX HCX hrX u19 gb4 HC4 hrg4
          cases q1 with
          | false =>
            have g6 : GB w w5 l.length l w.heap.size g bg bp bm Dp (arc1 false R a b) arcs := g5
            have HC6 := HC5
            have hr6 := hr5
            have u6 := u5
            clear g5 HC5 hr5 u5
            obtain ⟨⟨a0, a1, a2, a3, a4, a5⟩, ⟨b0, b1, b2, b3, b4, b5⟩, lba, lbb⟩ := HMV.out w5 g6.bel
            have l19 := u6.lt
            obtain ⟨d0, d1⟩ := u6.c2
            have kW2 : Hid (∀ u : Kept w5.heap.size w5, Calls Tryz.prog 118 #[.slice A9 m1 c9, mvv mb, mvv ma] u.val fun e w' => e = .returned (.bool q2) ∧ Below u.val.heap.size u.val w') := Lib.hid (fun u => HW2.out u.val (HC6.out.next u.h))
            go_wp2_with fail
            refine wp_region_kept w5.heap.size w5 (by kernel_rfl) (by kernel_rfl) (Below.refl _ _) ?_
            repeat (go_big_quiet_step ((go_at_call 118; exact Kept.calls (Nat.le_refl _) (kW2.out _))))
            refine wpQuiet_nil ?_
            rintro w7 ⟨⟨_, hb7⟩, rfl⟩
            clear a0 a1 a2 a3 a4 a5 b0 b1 b2 b3 b4 b5 d0 d1
            have g7 := g6.next hb7
            have HC7 : Hid (CM w7 (bm + 1) bm nn l ps D V) := Lib.hid (HC6.out.next hb7)
            have hr7 := hr6.kept (below_grown hb7) (by simp) (by simp)
            have u7 := u6.below hb7
            cases q2 with
            | false =>
              have gF : GB w w7 l.length l w.heap.size g bg bp bm Dp (arc1 false (arc1 false R a b) b a) (arcs) := g7
              have HCF := HC7
              have hrF := hr7
              clear g7 HC7 hr7 g6 HC6 hr6 kW2 kW1 HW1 HW2
              go_wp2_with fail
              go_roundw
              case rel => exact ⟨_, cnt2, _, _, hrF, gF, HCF, HRS2, HLF4, by omega, by omega⟩
              case measure => rw [hrF.left_eq, hrg.left_eq]; exact hlt4
            | true =>
              obtain ⟨d0, d1⟩ := u7.c2
              go_wp2_with fail
              clear d0 d1
              refine (dgAdd_ok w.heap.size g bg l.length b a (arc1 false R a b) (arcs) w7 g7.go hbl hal (by omega) hl512 (HN2.out false) ⟨by omega, by omega⟩).mono ?_
              rintro e w8 ⟨rfl, hgo8, htw8⟩
              replace hgo8 : GO w8 w.heap.size g bg l.length (arc1 true (arc1 false R a b) b a) (arcs + 1) := hgo8
              have gF := g7.two hgo8 htw8 hwg hord.out
              have HCF : Hid (CM w8 (bm + 1) bm nn l ps D V) := Lib.hid (HC7.out.two htw8 (by have := hord.out; omega) g7.go.far (Nat.lt_succ_self _))
              have hrF := ranges_two hr7 htw8 (by have := hord.out; omega) g7.go.far hr0
              clear g7 HC7 hr7 g6 HC6 hr6 kW2 kW1 HW1 HW2 hgo8 htw8
              go_wp2_with fail
              go_roundw
              case rel => exact ⟨_, cnt2, _, _, hrF, gF, HCF, HRS2, HLF4, by omega, by omega⟩
              case measure => rw [hrF.left_eq, hrg.left_eq]; exact hlt4
          | true =>
            obtain ⟨d0, d1⟩ := u5.c2
            go_wp2_with fail
            clear d0 d1
            refine (dgAdd_ok w.heap.size g bg l.length a b R arcs w5 g5.go hal hbl (by omega) hl512 HN1.out ⟨hac0, by omega⟩).mono ?_
            rintro e w6 ⟨rfl, hgo6, htw6⟩
            replace hgo6 : GO w6 w.heap.size g bg l.length (arc1 true R a b) (arcs + 1) := hgo6
            have g6 := g5.two hgo6 htw6 hwg hord.out
            have HC6 : Hid (CM w6 (bm + 1) bm nn l ps D V) := Lib.hid (HC5.out.two htw6 (by have := hord.out; omega) g5.go.far (Nat.lt_succ_self _))
            have hr6 := ranges_two hr5 htw6 (by have := hord.out; omega) g5.go.far hr0
            have u6 := u5.two htw6 (by have := hord.out; omega) g5.go.far
            clear g5 HC5 hr5 u5 hgo6 htw6
            obtain ⟨⟨a0, a1, a2, a3, a4, a5⟩, ⟨b0, b1, b2, b3, b4, b5⟩, lba, lbb⟩ := HMV.out w6 g6.bel
            have l19 := u6.lt
            obtain ⟨d0, d1⟩ := u6.c2
            have kW2 : Hid (∀ u : Kept w6.heap.size w6, Calls Tryz.prog 118 #[.slice A9 m1 c9, mvv mb, mvv ma] u.val fun e w' => e = .returned (.bool q2) ∧ Below u.val.heap.size u.val w') := Lib.hid (fun u => HW2.out u.val (HC6.out.next u.h))
            go_wp2_with fail
            refine wp_region_kept w6.heap.size w6 (by kernel_rfl) (by kernel_rfl) (Below.refl _ _) ?_
            repeat (go_big_quiet_step ((go_at_call 118; exact Kept.calls (Nat.le_refl _) (kW2.out _))))
            refine wpQuiet_nil ?_
            rintro w7 ⟨⟨_, hb7⟩, rfl⟩
            clear a0 a1 a2 a3 a4 a5 b0 b1 b2 b3 b4 b5 d0 d1
            have g7 := g6.next hb7
            have HC7 : Hid (CM w7 (bm + 1) bm nn l ps D V) := Lib.hid (HC6.out.next hb7)
            have hr7 := hr6.kept (below_grown hb7) (by simp) (by simp)
            have u7 := u6.below hb7
            cases q2 with
            | false =>
              have gF : GB w w7 l.length l w.heap.size g bg bp bm Dp (arc1 false (arc1 true R a b) b a) (arcs + 1) := g7
              have HCF := HC7
              have hrF := hr7
              clear g7 HC7 hr7 g6 HC6 hr6 kW2 kW1 HW1 HW2
              go_wp2_with fail
              go_roundw
              case rel => exact ⟨_, cnt2, _, _, hrF, gF, HCF, HRS2, HLF4, by omega, by omega⟩
              case measure => rw [hrF.left_eq, hrg.left_eq]; exact hlt4
            | true =>
              obtain ⟨d0, d1⟩ := u7.c2
              go_wp2_with fail
              clear d0 d1
              refine (dgAdd_ok w.heap.size g bg l.length b a (arc1 true R a b) (arcs + 1) w7 g7.go hbl hal (by omega) hl512 (HN2.out true) ⟨by omega, by omega⟩).mono ?_
              rintro e w8 ⟨rfl, hgo8, htw8⟩
              replace hgo8 : GO w8 w.heap.size g bg l.length (arc1 true (arc1 true R a b) b a) (arcs + 1 + 1) := hgo8
              have gF := g7.two hgo8 htw8 hwg hord.out
              have HCF : Hid (CM w8 (bm + 1) bm nn l ps D V) := Lib.hid (HC7.out.two htw8 (by have := hord.out; omega) g7.go.far (Nat.lt_succ_self _))
              have hrF := ranges_two hr7 htw8 (by have := hord.out; omega) g7.go.far hr0
              clear g7 HC7 hr7 g6 HC6 hr6 kW2 kW1 HW1 HW2 hgo8 htw8
              go_wp2_with fail
              go_roundw
              case rel => exact ⟨_, cnt2, _, _, hrF, gF, HCF, HRS2, HLF4, by omega, by omega⟩
              case measure => rw [hrF.left_eq, hrg.left_eq]; exact hlt4
end Go.Proofs.YtpkepgcmifdpfaaGreatDoor
end
