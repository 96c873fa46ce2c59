/- A bundle of texts: GrD, Kn47, RdT, Rd1, Rd2. -/
import Derived.Test.YtceobfigfmnacaaDoorE22
import Derived.Test.YtceobfigfmnacaaDoorE23
import Derived.Test.YtceobfigfmnacaaDoorE07
import Derived.Test.YtceobfigfmnacaaDoorE04
section
namespace Go.Proofs.YtceobfigfmnacaaDoor
open Go Go.RowKit
set_option maxRecDepth 100000
namespace Dg
theorem top_le {D : Nat → Nat} {b : Nat} : ∀ (l : List Nat), (∀ x ∈ l, D x ≤ b) → top D l ≤ b := by
  intro l h
  rcases top_ge D l 0 with ⟨_, _, h3 | ⟨w, hw, h3⟩⟩
  · unfold top; omega
  · have := h w hw; unfold top; omega
end Dg
theorem Box.same {w : World} {b : Nat} {cs : Array Value} {t : TypeId} (h : Box w b cs t) {i : Nat} {v : Value} (hv : cs[i]? = some v) : w.setCell ⟨b, i, none⟩ v = w := by
  have hh : (w.setCell ⟨b, i, none⟩ v).heap = w.heap := by
    apply Array.ext_getElem?
    intro k
    by_cases e : b = k
    · subst e
      have h1 := h.set i v
      unfold Box at h h1
      rw [h1, h]
      have : cs.setIfInBounds i v = cs := by
        apply Array.ext_getElem?
        intro j
        rw [Array.getElem?_setIfInBounds]
        split
        · rename_i e; subst e
          split
          · exact hv.symm
          · rename_i hj
            rw [Array.getElem?_eq_none (by omega)] at hv
            cases hv
        · rfl
      rw [this]
    · exact heap_setCell_other w ⟨b, i, none⟩ k v (fun h => e h.symm)
  show { w with heap := (w.setCell ⟨b, i, none⟩ v).heap } = w
  rw [hh]
theorem take_if (vs : List Nat) (k : Nat) (hk : k < vs.length) (t : Nat) (D : Nat → Nat) : (fun j => if j = vs[k] then t else (if j ∈ vs.take k then t else D j)) = fun x => if x ∈ vs.take (k + 1) then t else D x := by
  funext x
  have hm : x ∈ vs.take (k + 1) ↔ x ∈ vs.take k ∨ x = vs[k] := by rw [List.take_succ_eq_append_getElem hk, List.mem_append, List.mem_singleton]
  by_cases e1 : x = vs[k]
  · rw [if_pos e1, if_pos (hm.2 (.inr e1))]
  · rw [if_neg e1]
    by_cases e2 : x ∈ vs.take k
    · rw [if_pos e2, if_pos (hm.2 (.inl e2))]
    · rw [if_neg e2, if_neg (fun h => (hm.1 h).elim e2 e1)]
structure DS (w2 W : World) (base n g9 b9 : Nat) (D : Nat → Nat) (v : Value) (ls : List SLc) : Prop where
  bel : Below w2.heap.size w2 W
  lo : LO W base v ls
  x9 : Box W b9 #[.slice (some ⟨g9, 0, none⟩) n n] 39
  o9 : W.ownsRow w2.heap.size 3 1 (.slice (some ⟨g9, 0, none⟩) n n) n (flat 1 icell (Dg.fl n fun j => (D j : Int)))
section
variable {w2 W W' : World} {base n g9 b9 : Nat} {D : Nat → Nat} {v : Value} {ls : List SLc}
theorem DS.next (h : DS w2 W base n g9 b9 D v ls) (hb : Below W.heap.size W W') : DS w2 W' base n g9 b9 D v ls :=
  ⟨after_ h.bel hb, h.lo.below hb, h.x9.below hb, own_below h.o9 hb⟩
theorem DS.own {row : Option Nat} {B : Nat} (h : DS w2 W base n g9 b9 D v ls) (hB : w2.heap.size ≤ B) (hg : W.grownBy W' row) (hr : ∀ r, row = some r → B ≤ r ∧ ∃ o : Obj, W.heap[r]? = some o ∧ o.isCells = false) : DS w2 W' base n g9 b9 D v ls :=
  ⟨below_own h.bel hB h.bel.size hg hr, h.lo.own hg hr, h.x9.own hg hr, row_own h.o9 hg hr⟩
theorem DS.cell {b i : Nat} (h : DS w2 W base n g9 b9 D v ls) (hs : w2.heap.size ≤ g9 ∧ g9 < b9) (hb : b9 < b) (hlv : v.ownBlock ≠ some b) (hli : ∀ s ∈ ls, (Value.slice s.A s.xs.length s.c).ownBlock ≠ some b) (u : Value) : DS w2 (W.setCell ⟨b, i, none⟩ u) base n g9 b9 D v ls :=
  ⟨h.bel.setCell (p := ⟨b, i, none⟩) (by dsimp only; omega) _, h.lo.off (grown_set W b i u) hlv hli, h.x9.set_other (by dsimp only; omega) _, h.o9.kept (grown_set W b i u) (.inr (fun e => by have e2 : g9 = b := Option.some.inj e; omega))⟩
theorem DS.set (h : DS w2 W base n g9 b9 D v ls) (hs : w2.heap.size ≤ g9 ∧ g9 < b9) (hb : b9 < base) {x : Nat} (hx : x < n) (y : Nat) : DS w2 (W.setCell ⟨g9, x, none⟩ (.int .i64 y)) base n g9 b9 (fun j => if j = x then y else D j) v ls := by
  refine ⟨h.bel.setCell (p := ⟨g9, x, none⟩) (by dsimp only; omega) _, h.lo.far (grown_set W g9 x _) (by omega), h.x9.set_other (by dsimp only; omega) _, ?_⟩
  have h3 := own_set (size := 1) (cell := icell) h.o9 (k := x) (by rw [Dg.fl_len]; exact hx) (j := 0) (y := (y : Int)) (u := .int .i64 y) (by decide) rfl (fun j' h1 h2 => absurd h1 (by omega))
  rw [Nat.mul_one, Nat.add_zero, Dg.fl_set] at h3
  have e : (fun j => if j = x then (y : Int) else (D j : Int)) = fun j => ((if j = x then y else D j : Nat) : Int) := by funext j; split <;> rfl
  rw [e] at h3
  exact h3
theorem DS.at (h : DS w2 W base n g9 b9 D v ls) {x : Nat} (hx : x < n) : W.cell? ⟨g9, x, none⟩ = some (.int .i64 (D x)) ∧ W.frozen? ⟨g9, x, none⟩ = false := by
  have := own_at h.o9 (k := x) (j := 0) (by rw [Dg.fl_len]; exact hx) (by decide)
  rw [Nat.mul_one, Nat.add_zero] at this
  refine ⟨this.1.trans ?_, this.2⟩
  rw [Dg.fl_at]
  rfl
end
set_option maxHeartbeats 32000000 in
theorem depth_ok (PA : Option Addr) (pc np : Nat) (ps : List P5) (LA : Option Addr) (lc : Nat) (l : List Mv) (w : World) (ht : Tab64 w) (hnp : np = ps.length) (hP : Sl 5 p5cell w w.heap.size PA ps) (hL : Sl 6 mvcell w w.heap.size LA l) (hl : l.length ≤ 9223372036854775806) (hw : ∀ p ∈ ps, M.W64 p.a ∧ M.W64 p.b) :
    Calls Tryd.prog 19 #[.slice PA np pc, .slice LA l.length lc] w fun e w' => (∃ er, M.errIs ps l er ∧ ((er ≠ 0 ∧ e = .returned (.tuple #[.int .i64 0, .int .i64 er])) ∨ (er = 0 ∧ e = .returned (.tuple #[.int .i64 (Dg.depth (M.rows ps l) : Nat), .int .i64 0])))) ∧ Below w.heap.size w w' := by
  obtain ⟨ii, hii, hzi0, hzi1, hzi2⟩ := info_parts inInfo
  have Hii := Lib.hid hii; have Hzi0 := Lib.hid hzi0; have Hzi1 := Lib.hid hzi1; have Hzi2 := Lib.hid hzi2
  clear hii hzi0 hzi1 hzi2
  have kG := graph_ok PA pc np ps LA lc l w hnp hP hL hl hw
  clear hnp hw hP
  refine calls_marks Tryd.func19 rfl ?_
  simp only [Tryd.ntmps19, List.size_toArray, List.length_cons, List.length_nil, Nat.reduceAdd, Nat.reduceSub, Array.replicate_succ, Array.replicate_zero, List.push_toArray, List.append_toArray, List.nil_append, List.cons_append]
  go_wp2_with fail
  refine kG.mono ?_
  rintro e w2 ⟨⟨er, her, hcase⟩, hb2⟩
  clear kG
  rcases hcase with ⟨hne, rfl⟩ | ⟨rfl, g, bg, arcs, rfl, hg, hGO⟩
  · have q0 : (er == 0) = false := by simpa using hne
    have q1 : (er != 0) = true := by simpa using hne
    have HER := Lib.hid her
    have HE0 := Lib.hid hne
    clear her hne
    go_wp2_with fail
    exact leaves_marks (B := w.heap.size) (C := w.heap.size) _ _ Marks.none_ (fun W' hs => ⟨.tuple #[.int .i64 0, .int .i64 er], by simp [results, Tryd.results19, go_sem], ⟨er, HER.out, .inl ⟨HE0.out, rfl⟩⟩, hb2.trans hs.below⟩)
  · have HER := Lib.hid her
    have hok : M.mvsOk l := by
      rcases HER.out with ⟨h1, h2, -⟩ | ⟨-, -, h⟩ | ⟨-, h⟩
      · exact h1
      · cases h
      · cases h
    have hR := M.rows_ok (ps := ps) hok.1
    have hl512 := hok.1
    have hRL := M.rows_len ps l
    have HRL : Hid ((M.rows ps l).length = l.length) := Lib.hid hRL
    have hdg := hGO.dg
    clear her hok hRL
    obtain ⟨n, hn⟩ : ∃ n, l.length = n := ⟨_, rfl⟩
    have HN := Lib.hid hn
    rw [hn] at hl512 hdg ⊢
    clear hn
    go_wp2_with (at_make; refine wpList_make_full _ rfl _ _ 39 rfl w2.heap.size 3 ii _ 1 Tryd.underlying39 Hii.out Hzi0.out Hzi1.out .i64 .i64 _ _ n rfl rfl rfl rfl (by rw [Hzi2.out]; omega) (by unfold maxLen; omega) (Nat.le_refl _) ?_; intro w4 hown4 hg4; obtain ⟨X, HX, x9, hbX, hsX⟩ := boxes1 w4 #[.slice (some ⟨w2.heap.size, 0, none⟩) n n] 39; have hX := HX.out)
    clear hX
    have em := made_flat (cell := icell) (size := 1) (x0 := (0 : Int)) (by decide) (Value.int .i64 0).cells rfl n
    rw [em] at hown4
    clear em
    have hown4' : w4.ownsRow w2.heap.size 3 1 (.slice (some ⟨w2.heap.size, 0, none⟩) n n) n (flat 1 icell (Dg.fl n fun _ => ((0 : Nat) : Int))) := by
      rw [show Dg.fl n (fun _ => ((0 : Nat) : Int)) = List.replicate n 0 by unfold Dg.fl; rw [List.map_const', List.length_range]; rfl]
      exact hown4
    clear hown4
    have hb4 : Below w2.heap.size w2 w4 := (Below.refl _ _).grown hg4 (Nat.le_refl _) (by simp)
    have BX : Below w2.heap.size w2 X := hb4.trans (hbX.mono hb4.size)
    have hownX := own_below hown4' hbX
    have hs9 := (own_lt hown4').2
    have kQ := dpGroups_ok bg _ n (M.rows ps l) arcs X (ht.kept (after_ hb2 BX)) (hdg.next BX) hR
    refine kQ.mono ?_
    rintro e w3 ⟨v, ls, rfl, hlo, hls, hb3⟩
    clear kQ
    obtain ⟨A1, c1, rfl⟩ := hlo.slice
    have B3 := after_ BX hb3
    have ds0 : DS w2 w3 X.heap.size n w2.heap.size w4.heap.size (fun _ => 0) (.slice A1 ls.length c1) ls := ⟨B3, hlo, x9.below hb3, own_below hownX hb3⟩
    have hxX : w4.heap.size < X.heap.size := x9.lt
    have hX3 := hb3.size
    have HOL : Hid (∀ v ∈ Dg.ord (M.rows ps l), v < n) := Lib.hid (fun v hv => by
      have := (Dg.mem_leads.1 ((Dg.ord_mem hR).1 hv)).1
      rwa [HRL.out, HN.out] at this)
    have hol : (Dg.ord (M.rows ps l)).length ≤ 512 := by
      have h1 := (Dg.ord_perm hR).length_eq
      have h2 := Dg.leads_len (M.rows ps l)
      have h3 := HRL.out
      have h4 := HN.out
      omega
    have HSC : Hid (∀ v, v < n → ∀ x ∈ Bs.els (Dg.scc (M.rows ps l) v) 0, x < n) := Lib.hid (fun v hv x hx => by
      have hv' : v < (M.rows ps l).length := by rw [HRL.out, HN.out]; exact hv
      have := ((Dg.scc_bit hR hv' x).1 ((Bs.mem_els (Dg.scc_fit hR v)).1 hx)).1.lt hR hv'
      rwa [HRL.out, HN.out] at this)
    have HWT : Hid (∀ v, v < n → ∀ x ∈ Bs.els (Dg.wt (M.rows ps l) v) 0, x < n) := Lib.hid (fun v hv x hx => by
      have hv' : v < (M.rows ps l).length := by rw [HRL.out, HN.out]; exact hv
      have h1 := (Bs.mem_els (Bs.fit_dif _ (Dg.nx_fit hR _))).1 hx
      obtain ⟨⟨a, h2, h3⟩, -⟩ := (Dg.wt_bit hR hv' x).1 h1
      have := hR.fit _ _ h3
      rwa [HRL.out, HN.out] at this)
    have HD0 : Hid (Dg.dpt (M.rows ps l) (Dg.ord (M.rows ps l)) (fun _ => 0) 0 = Dg.depth (M.rows ps l)) := Lib.hid rfl
    have HRN : Hid ((M.rows ps l).length = n) := Lib.hid (HRL.out.trans HN.out)
    generalize Dg.ord (M.rows ps l) = od at *
    have hlm : ls.length = od.length := by rw [← List.length_map (f := (·.xs)), hls, List.length_map]
    have HLM := Lib.hid hlm
    rw [← hlm] at hol
    have HLS := Lib.hid hls
    clear hlm hls
    have HS : Hid (w2.heap.size ≤ w2.heap.size ∧ w2.heap.size < w4.heap.size ∧ w4.heap.size < X.heap.size ∧ X.heap.size ≤ w3.heap.size) := Lib.hid ⟨Nat.le_refl _, hs9, hxX, hX3⟩
    clear hs9 hxX hX3 hlo hb3 hownX hbX hb4 BX hown4' x9 hg4 B3 HX hsX hGO hg
    generalize X.heap.size = base at *
    generalize hb9e : w4.heap.size = b9 at *
    clear hb9e
    go_wp2_with fail
    refine wp_loop_mrg [8, 11, 12, 13, 15, 31, 32, 33, 34, 35, 36, 37, 38, 39, 40, 41, 42, 43, 44, 45, 46, 47, 48, 49, 50, 51, 52, 53, 54, 55, 56, 57, 58, 59, 60, 61, 62] (fun mm f ds W0 => ∃ (i : Nat) (D : Nat → Nat) (g : Nat), f 31 = .int .i64 i ∧ f 8 = .int .i64 (g : Nat) ∧ mm = ls.length - i ∧ i ≤ ls.length ∧ DS w2 W0 base n w2.heap.size b9 D (.slice A1 ls.length c1) ls ∧ base ≤ W0.heap.size ∧ Hid ((∀ x, D x ≤ i) ∧ g ≤ i ∧ Dg.dpt (M.rows ps l) (od.drop i) D g = Dg.depth (M.rows ps l)) ∧ Marks w2.heap.size W0.heap.size ds W0) ls.length ⟨0, fun _ => 0, 0, rfl, rfl, rfl, Nat.zero_le _, ds0, HS.out.2.2.2, Lib.hid ⟨fun _ => Nat.le_refl _, Nat.le_refl _, HD0.out⟩, Marks.none_⟩ ?_
    clear ds0
    intro c2' T2' hc2 hT2
    rintro mm f ds W0 ⟨i, D, gr, hf31, hf8, rfl, hi, hds, hbs, HD, hM⟩
    replace hc2 := hc2.out
    subst hc2
    replace hT2 := hT2.out
    subst hT2
    generalize hF : mrgF _ 0 _ _ = F
    simp only [mrg_hit, mrg_miss, mrg_end, Nat.reduceBEq, Nat.reduceAdd] at hF
    rw [hf31, hf8] at hF
    subst hF
    by_cases hlt : i < ls.length
    · have x0 : (0 : Int) ≤ (i : Int) := by omega
      have x1 : (i : Int) < (ls.length : Int) := by omega
      have q0 : decide ((i : Int) < (ls.length : Int)) = true := decide_eq_true x1
      have hio : i < od.length := by rw [← HLM.out]; exact hlt
      obtain ⟨VA, vc, hel⟩ : ∃ VA vc, ls[i] = ⟨VA, vc, nints (Bs.els (Dg.scc (M.rows ps l) od[i]) 0)⟩ := by
        have e2 : (ls.map (·.xs))[i]'(by simpa using hlt) = ls[i].xs := by simp
        have e1 := HLS.out
        simp only [e1, List.getElem_map] at e2
        exact ⟨ls[i].A, ls[i].c, by rw [show nints _ = ls[i].xs from e2]⟩
      have hvn := HOL.out od[i] (List.getElem_mem hio)
      have HXL := Lib.hid (HSC.out od[i] hvn)
      have HYL := Lib.hid (HWT.out od[i] hvn)
      have hsl := Bs.els_len (Dg.scc (M.rows ps l) od[i]) 0
      have HSTEP : Hid (Dg.dpt (M.rows ps l) (od.drop i) D gr = Dg.dpt (M.rows ps l) (od.drop (i + 1)) (Dg.deep (M.rows ps l) D od[i]) (max gr (Dg.top D (Bs.els (Dg.wt (M.rows ps l) od[i]) 0) + 1))) := Lib.hid (by rw [List.drop_eq_getElem_cons hio]; rfl)
      have HDEEP : Hid (Dg.deep (M.rows ps l) D od[i] = fun x => if x ∈ Bs.els (Dg.scc (M.rows ps l) od[i]) 0 then Dg.top D (Bs.els (Dg.wt (M.rows ps l) od[i]) 0) + 1 else D x) := Lib.hid (by
        funext x
        unfold Dg.deep
        have := Bs.mem_els (Dg.scc_fit hR od[i]) (x := x)
        by_cases hx : x ∈ Bs.els (Dg.scc (M.rows ps l) od[i]) 0
        · rw [if_pos hx, if_pos (this.1 hx)]
        · rw [if_neg hx, if_neg (fun h => hx (this.2 h))])
      have hin0 := (hds.lo.ll).inner _ (List.getElem_mem hlt)
      obtain ⟨la, hla, hlb, a0⟩ := hds.lo.ll.outer.one_at hlt
      rw [hel] at a0 hin0
      have e3 : ∀ vs, slcell ⟨VA, vc, nints vs⟩ 0 = .slice VA vs.length vc := fun vs => by unfold slcell; rw [nints_len]
      rw [e3] at a0
      clear e3
      have HEL := Lib.hid hel
      clear hel
      have kNx := fun W (hb : Below W0.heap.size W0 W) => dpNext_ok bg _ n (M.rows ps l) arcs VA vc (Bs.els (Dg.scc (M.rows ps l) od[i]) 0) W (hdg.next (after_ hds.bel hb)) hR (fun x hx => by rw [HRN.out]; exact HXL.out x hx) ((hin0.below hb).more hb.size) (by omega)
      rw [nextF_part hR] at kNx
      subst hla
      obtain ⟨X1, HX1, x12, hbX1, hsX1⟩ := boxes1 W0 #[.int .i64 0] 3
      have kN1 := kNx X1 hbX1
      have hX1 := HX1.out
      clear hsX1 kNx
      have hsl2 := Bs.els_len (Dg.wt (M.rows ps l) od[i]) 0
      generalize Bs.els (Dg.scc (M.rows ps l) od[i]) 0 = vs at *
      generalize Dg.wt (M.rows ps l) od[i] = ws at *
      have HNL : Hid ((Value.slice (some la) ls.length c1).ownBlock ≠ some W0.heap.size ∧ ∀ s ∈ ls, (Value.slice s.A s.xs.length s.c).ownBlock ≠ some W0.heap.size) := Lib.hid ⟨fun e => by have := (hds.lo.outer.lt _ e).2; omega, fun s hs e => by have := ((hds.lo.inner s hs).lt _ e).2; omega⟩
      have h9W : b9 < W0.heap.size := hds.x9.lt
      have hsm := x12.same (i := 0) (v := .int .i64 0) rfl
      have c12 := x12.c1
      have f12 := x12.frozen 0
      have hds1 := hds.next hbX1
      have hM1 := hM.below hbX1
      go_wp2_with fail
      clear hX1 a0 hsm c12 f12
      refine kN1.mono ?_
      rintro e w5 ⟨rfl, hb5⟩
      clear kN1
      have hds5 := hds1.next hb5
      have hM5 := hM1.below hb5
      have y12 := x12.below hb5
      go_wp2_with fail
      refine (bsAll_ok ws w5).mono ?_
      rintro e w6 ⟨rfl, hb6, hs6, xb⟩
      have hds6 := hds5.next hb6
      have hM6 := hM5.below hb6
      have z12 := y12.below hb6
      have l12 : W0.heap.size < w5.heap.size := y12.lt
      have hM6' := hM6.more (C' := w6.heap.size) (by have := hbX1.size; have := hb5.size; have := hb6.size; omega)
      clear hds1 hds5 hM1 hM5 x12 y12 hM6
      go_wp2_with fail
      refine wp_range (gf := 54) (lb := #[.pointer (some ⟨w5.heap.size, 0, none⟩)]) rfl (enters_of Tryd.func54 (by kernel_rfl) rfl) (bsAll_seq w5.heap.size ws) (fun _ => rfl)
        (fun pre W => DS w2 W base n w2.heap.size b9 D (.slice (some la) ls.length c1) ls ∧ Box W W0.heap.size #[.int .i64 (Dg.top D pre : Nat)] 3 ∧ Box W w5.heap.size (bsc ws) 80 ∧ Marks w2.heap.size w6.heap.size ds W) (fun _ _ _ => False)
        ?hI (fun _ _ _ _ _ h => h.elim) ?hK ⟨hds6, z12, xb, hM6'⟩ ?round ?done (fun _ _ _ h => h.elim)
      case hI => exact fun pre W W' row ⟨h1, h2, h3, h4⟩ hg hr => ⟨h1.own hds6.bel.size hg hr, h2.own hg hr, h3.own hg hr, h4.own (Nat.le_refl _) hg hr⟩
      case hK => exact fun pre W ⟨h1, h2, h3, h4⟩ => ⟨h3, ht.kept (after_ hb2 h1.bel)⟩
      case round =>
        clear z12 xb
        intro r' pre x post W hL hl' hd hi'
        gi_wp2
        refine ⟨hl', hd, hi', fun _ => True, fun _ _ _ _ _ _ _ => trivial, trivial, ?_⟩
        clear hl' hd hi'
        rintro r'' W2 hl' hd ⟨h1, h2, h3, h4⟩ -
        have hxn := HYL.out x (by rw [hL]; simp)
        have HT : Hid (Dg.top D (pre ++ [x]) = max (Dg.top D pre) (D x)) := Lib.hid (Dg.top_snoc D pre x)
        have ht1 := Dg.top_le (D := D) (b := i) pre (fun y _ => HD.out.1 y)
        have ht2 := HD.out.1 x
        clear hL
        obtain ⟨D9, F9⟩ := h1.at hxn
        have E9 := h1.x9.c1
        have E12 := h2.c1
        have F12 := h2.frozen 0
        have lx12 : W0.heap.size < W2.heap.size := h2.lt
        have lx9 : b9 < W2.heap.size := h1.x9.lt
        have lg9 : w2.heap.size < W2.heap.size := (own_lt h1.o9).2
        have y0 : (0 : Int) ≤ (x : Int) := by omega
        have y1 : (x : Int) < (n : Int) := by omega
        generalize Dg.top D pre = tp at *
        generalize D x = dx at *
        gi_wp2_with fail
        refine wpIn_region_kept_tail 5 W2.heap.size W2 (by kernel_rfl) (by kernel_rfl) (by kernel_rfl) (Below.refl _ _) ?_
        simp only [List.take_succ_cons, List.take_zero, List.drop_succ_cons, List.drop_zero]
        repeat (go_big_quiet_step (fail))
        refine wpQuiet_nil ?_
        rintro w7 ⟨⟨_, hb7⟩, rfl⟩
        have k1 := h1.next hb7
        have k2 := h2.below hb7
        have k3 := h3.below hb7
        have k4 := h4.below hb7
        have hl7 := hl'.below hb7
        have hd7 := hd.below hb7
        clear E12 F12 D9 F9 E9
        have E12 := k2.c1
        have F12 := k2.frozen 0
        go_wp2_with fail
        change _ ∧ _ ∧ _
        have HMX : Hid (((max tp dx : Nat) : Int) = max (tp : Int) (dx : Int)) := Lib.hid (by omega)
        rw [HT.out]
        refine ⟨hl7.set_other (p := ⟨W0.heap.size, 0, none⟩) (hl7.ne_box rfl k2) _, hd7.set_other (p := ⟨W0.heap.size, 0, none⟩) (hd7.ne_box rfl k2) _, k1.cell ⟨Nat.le_refl _, HS.out.2.1⟩ h9W HNL.out.1 HNL.out.2 _, ?_, k3.set_other (p := ⟨W0.heap.size, 0, none⟩) (by dsimp only; omega) _, k4.set_other (i := 0) k2 _⟩
        rw [HMX.out]
        exact k2.set 0 _
      case done =>
        rintro W ⟨h1, h2, h3, h4⟩ hD
        have hMf := h4.cons (C := w6.heap.size) (D := w6.heap.size) hds6.bel.size (Nat.le_refl _) hD
        have hDl := hD.lt
        have htop := Dg.top_le (D := D) (b := i) (Bs.els ws 0) (fun y _ => HD.out.1 y)
        generalize Dg.top D (Bs.els ws 0) = tp at *
        have HMEM : Hid (∀ (k : Nat) (hk : k < vs.length), (fun j => if j = vs[k] then tp + 1 else (if j ∈ vs.take k then tp + 1 else D j)) = fun x => if x ∈ vs.take (k + 1) then tp + 1 else D x) := Lib.hid (fun k hk => take_if vs k hk (tp + 1) D)
        have hds0 : DS w2 W base n w2.heap.size b9 (fun x => if x ∈ vs.take 0 then tp + 1 else D x) (.slice (some la) ls.length c1) ls := by simpa using h1
        clear h1 h3 h4 hD z12 xb hds6 hM6' hs6
        go_wp2_with fail
        refine wp_loop_mrg [15, 48, 49, 50, 51, 52, 53, 54, 55, 56, 57] (fun mm f ds W1 => ∃ (j : Nat), f 48 = .int .i64 j ∧ mm = vs.length - j ∧ j ≤ vs.length ∧ DS w2 W1 base n w2.heap.size b9 (fun x => if x ∈ vs.take j then tp + 1 else D x) (.slice (some la) ls.length c1) ls ∧ Box W1 W0.heap.size #[.int .i64 (tp : Nat)] 3 ∧ Marks w2.heap.size (w6.heap.size + 1) ds W1 ∧ w6.heap.size < W1.heap.size) vs.length ⟨0, rfl, rfl, Nat.zero_le _, hds0, h2, hMf, hDl⟩ ?_
        clear hds0 h2 hMf hDl
        intro c3' T3' hc2 hT2
        rintro mm f ds2 W1 ⟨j, hf48, rfl, hj, hd1, h12, hM2, hsz⟩
        replace hc2 := hc2.out
        subst hc2
        replace hT2 := hT2.out
        subst hT2
        generalize hF : mrgF _ 0 _ _ = F
        simp only [mrg_hit, mrg_miss, mrg_end, Nat.reduceBEq, Nat.reduceAdd] at hF
        rw [hf48] at hF
        subst hF
        by_cases hjl : j < vs.length
        · have hin1 := hd1.lo.ll.inner _ (List.getElem_mem hlt)
          rw [HEL.out] at hin1
          obtain ⟨lb, hlb1, hlb2, b0⟩ := hin1.int_at (k := j) (by rw [nints_len]; exact hjl)
          rw [show (nints vs)[j]'(by rw [nints_len]; exact hjl) = ((vs[j] : Nat) : Int) by unfold nints; rw [List.getElem_map]] at b0
          have hvj := HXL.out vs[j] (List.getElem_mem hjl)
          have hst := hd1.set ⟨Nat.le_refl _, HS.out.2.1⟩ HS.out.2.2.1 hvj (tp + 1)
          rw [HMEM.out j hjl] at hst
          obtain ⟨D9, F9⟩ := hd1.at hvj
          have HST := Lib.hid hst
          clear hst
          have E9 := hd1.x9.c1
          have E12 := h12.c1
          have x3 : (0 : Int) ≤ (j : Int) := by omega
          have x4 : (j : Int) < (vs.length : Int) := by omega
          have q4 : decide ((j : Int) < (vs.length : Int)) = true := decide_eq_true x4
          have y0 : (0 : Int) ≤ (vs[j] : Int) := by omega
          have y1 : (vs[j] : Int) < (n : Int) := by omega
          generalize vs[j] = v at *
          subst hlb1
          go_wp2_with fail
          have hst := HST.out
          exact ⟨rfl, vs.length - (j + 1), by omega, j + 1, rfl, rfl, hjl, hst, h12.set_other (p := ⟨w2.heap.size, v, none⟩) (by have := h9W; have := HS.out.2.1; dsimp only; omega) _, hM2.set_own hd1.o9 _⟩
        · obtain rfl : j = vs.length := by omega
          have q4 : decide ((vs.length : Int) < (vs.length : Int)) = false := decide_eq_false (by omega)
          rw [List.take_length] at hd1
          have E12 := h12.c1
          have hgr := HD.out.2.1
          have HMX : Hid (((max gr (tp + 1) : Nat) : Int) = max (gr : Int) ((tp : Int) + 1)) := Lib.hid (by omega)
          have HN2 : Hid (Hid ((∀ x, (fun x => if x ∈ vs then tp + 1 else D x) x ≤ i + 1) ∧ max gr (tp + 1) ≤ i + 1 ∧ Dg.dpt (M.rows ps l) (od.drop (i + 1)) (fun x => if x ∈ vs then tp + 1 else D x) (max gr (tp + 1)) = Dg.depth (M.rows ps l))) := Lib.hid (Lib.hid ⟨fun x => by
            have := HD.out.1 x
            show (if x ∈ vs then tp + 1 else D x) ≤ i + 1
            split <;> omega, by omega, by
            have h1 := HD.out.2.2
            rw [HSTEP.out, HDEEP.out] at h1
            exact h1⟩)
          have hbW : base ≤ W1.heap.size := by have := hb6.size; omega
          have hMf := hM2.more (C' := W1.heap.size) (by omega)
          go_wp2_with fail
          exact ⟨rfl, ls.length - (i + 1), by omega, i + 1, rfl, (fun x => if x ∈ vs then tp + 1 else D x), max gr (tp + 1), by rw [HMX.out]; rfl, rfl, hlt, hd1, HN2.out⟩
    · obtain rfl : i = ls.length := by omega
      have q0 : decide ((ls.length : Int) < (ls.length : Int)) = false := decide_eq_false (by omega)
      have HE : Hid (Dg.depth (M.rows ps l) = gr) := Lib.hid (by
        have h1 := HD.out.2.2
        rw [HLM.out, List.drop_length] at h1
        exact h1.symm)
      have hBf := after_ hb2 hds.bel
      go_wp2_with fail
      refine leaves_marks (B := w2.heap.size) _ _ hM (fun W' hs => ⟨.tuple #[.int .i64 (gr : Nat), .int .i64 0], by simp [results, Tryd.results19, go_sem], ⟨0, HER.out, .inr ⟨rfl, by rw [HE.out]⟩⟩, hBf.trans (hs.below.mono hb2.size)⟩)
end Go.Proofs.YtceobfigfmnacaaDoor
end

section
namespace Go.Proofs.YtceobfigfmnacaaDoor
open Go Go.RowKit
set_option maxRecDepth 100000
abbrev kpsc : Array Value := #[.int .i64 1, .int .i64 2, .int .i64 0, .int .i64 14, .int .i64 51, .int .i64 2, .int .i64 3, .int .i64 0, .int .i64 14, .int .i64 51]
abbrev klc (x : Int) : Array Value := #[.int .i64 1, .int .i64 20, .int .i64 21, .int .i64 0, .int .i64 0, .int .i64 1, .int .i64 2, .int .i64 21, .int .i64 22, .int .i64 0, .int .i64 0, .int .i64 1, .int .i64 3, .int .i64 22, .int .i64 x, .int .i64 0, .int .i64 0, .int .i64 1]
structure K47 (w0 w : World) (bp bl : Nat) (x : Int) : Prop where
  bel : Below w0.heap.size w0 w
  p : Box w bp kpsc 65
  l : Box w bl (klc x) 26
  tab0 : Tab64 w0
theorem K47.tab {w0 w : World} {bp bl : Nat} {x : Int} (h : K47 w0 w bp bl x) : Tab64 w := h.tab0.kept h.bel
theorem K47.next {w0 w w' : World} {bp bl : Nat} {x : Int} (h : K47 w0 w bp bl x) (hb : Below w.heap.size w w') : K47 w0 w' bp bl x := ⟨after_ h.bel hb, h.p.below hb, h.l.below hb, h.tab0⟩
theorem K47.ps {w0 w : World} {bp bl : Nat} {x : Int} (h : K47 w0 w bp bl x) : Sl 5 p5cell w w.heap.size (some ⟨bp, 0, none⟩) M.kps := Sl.of_box h.p rfl
theorem K47.ls {w0 w : World} {bp bl : Nat} (h : K47 w0 w bp bl 30) : Sl 6 mvcell w w.heap.size (some ⟨bl, 0, none⟩) M.kl := Sl.of_box h.l rfl
theorem K47.ls2 {w0 w : World} {bp bl : Nat} (h : K47 w0 w bp bl 21) : Sl 6 mvcell w w.heap.size (some ⟨bl, 0, none⟩) M.kl2 := Sl.of_box h.l rfl
theorem k_err {er : Int} (h : M.errIs M.kps M.kl er) : er = 0 := by
  rcases h with ⟨-, -, h⟩ | ⟨-, h2, -⟩ | ⟨h, -⟩
  · exact h
  · exact absurd h2 (by decide)
  · exact absurd M.kl_ok h
theorem k_err2 {er : Int} (h : M.errIs M.kps M.kl2 er) : er = 0 := by
  rcases h with ⟨-, -, h⟩ | ⟨-, h2, -⟩ | ⟨h, -⟩
  · exact h
  · exact absurd h2 (by decide)
  · exact absurd M.kl2_ok h
theorem kGroups {w0 w : World} {bp bl : Nat} (h : K47 w0 w bp bl 30) : Calls Tryd.prog 15 #[.slice (some ⟨bp, 0, none⟩) 2 2, .slice (some ⟨bl, 0, none⟩) 3 3] w fun e w' => (∃ A c ls, e = .returned (.tuple #[.slice A ls.length c, .int .i64 0]) ∧ LL w' A ls ∧ ls.map (·.xs) = [[3], [2], [1]]) ∧ Below w.heap.size w w' := by
  refine (groups_ok _ 2 2 M.kps _ 3 M.kl w h.tab rfl h.ps h.ls (by decide) M.kps_w).mono ?_
  rintro e w' ⟨⟨er, her, hc⟩, hb⟩
  refine ⟨?_, hb⟩
  rcases hc with ⟨h1, -⟩ | ⟨-, A, c, ls, rfl, hlo, hls⟩
  · exact absurd (k_err her) h1
  · exact ⟨A, c, ls, rfl, hlo.ll, by rw [hls, M.k_grps]⟩
theorem kGroups2 {w0 w : World} {bp bl : Nat} (h : K47 w0 w bp bl 21) : Calls Tryd.prog 15 #[.slice (some ⟨bp, 0, none⟩) 2 2, .slice (some ⟨bl, 0, none⟩) 3 3] w fun e w' => (∃ A c ls, e = .returned (.tuple #[.slice A ls.length c, .int .i64 0]) ∧ LL w' A ls ∧ ls.map (·.xs) = [[2, 3], [1]]) ∧ Below w.heap.size w w' := by
  refine (groups_ok _ 2 2 M.kps _ 3 M.kl2 w h.tab rfl h.ps h.ls2 (by decide) M.kps_w).mono ?_
  rintro e w' ⟨⟨er, her, hc⟩, hb⟩
  refine ⟨?_, hb⟩
  rcases hc with ⟨h1, -⟩ | ⟨-, A, c, ls, rfl, hlo, hls⟩
  · exact absurd (k_err2 her) h1
  · exact ⟨A, c, ls, rfl, hlo.ll, by rw [hls, M.k_grps2]⟩
theorem kBefore {w0 w : World} {bp bl : Nat} (h : K47 w0 w bp bl 30) : Calls Tryd.prog 17 #[.slice (some ⟨bp, 0, none⟩) 2 2, .slice (some ⟨bl, 0, none⟩) 3 3, .int .i64 1] w fun e w' => (∃ A c, e = .returned (.tuple #[.slice A 2 c, .int .i64 0]) ∧ Sl 1 icell w' w'.heap.size A [2, 3]) ∧ Below w.heap.size w w' := by
  refine (before_ok _ 2 2 M.kps _ 3 M.kl 1 w h.tab rfl h.ps h.ls (by decide) M.kps_w (by unfold M.W64; omega)).mono ?_
  rintro e w' ⟨⟨er, her, hc⟩, hb⟩
  refine ⟨?_, hb⟩
  rcases hc with ⟨h1, -⟩ | ⟨-, ⟨hn, -⟩ | ⟨v, A, c, hv, rfl, hS⟩⟩
  · exact absurd (k_err her) h1
  · rw [M.k_idx] at hn; cases hn
  · rw [M.k_idx] at hv
    obtain rfl := Option.some.inj hv
    rw [M.k_bef] at hS ⊢
    exact ⟨A, c, rfl, hS⟩
theorem kDepth {w0 w : World} {bp bl : Nat} (h : K47 w0 w bp bl 30) : Calls Tryd.prog 19 #[.slice (some ⟨bp, 0, none⟩) 2 2, .slice (some ⟨bl, 0, none⟩) 3 3] w fun e w' => e = .returned (.tuple #[.int .i64 3, .int .i64 0]) ∧ Below w.heap.size w w' := by
  refine (depth_ok _ 2 2 M.kps _ 3 M.kl w h.tab rfl h.ps h.ls (by decide) M.kps_w).mono ?_
  rintro e w' ⟨⟨er, her, hc⟩, hb⟩
  refine ⟨?_, hb⟩
  rcases hc with ⟨h1, -⟩ | ⟨-, rfl⟩
  · exact absurd (k_err her) h1
  · rw [M.k_depth]; rfl
theorem kDepth2 {w0 w : World} {bp bl : Nat} (h : K47 w0 w bp bl 21) : Calls Tryd.prog 19 #[.slice (some ⟨bp, 0, none⟩) 2 2, .slice (some ⟨bl, 0, none⟩) 3 3] w fun e w' => e = .returned (.tuple #[.int .i64 2, .int .i64 0]) ∧ Below w.heap.size w w' := by
  refine (depth_ok _ 2 2 M.kps _ 3 M.kl2 w h.tab rfl h.ps h.ls2 (by decide) M.kps_w).mono ?_
  rintro e w' ⟨⟨er, her, hc⟩, hb⟩
  refine ⟨?_, hb⟩
  rcases hc with ⟨h1, -⟩ | ⟨-, rfl⟩
  · exact absurd (k_err2 her) h1
  · rw [M.k_depth2]; rfl
theorem kLegal {w0 w : World} {bp bl : Nat} (h : K47 w0 w bp bl 30) (OA : Option Addr) (oc no : Nat) (os : List SLc) (r : Int) (hno : no = os.length) (hO : LL w OA os) (hol : os.length ≤ 10) (hoi : ∀ s ∈ os, s.xs.length ≤ 10 ∧ ∀ x ∈ s.xs, 0 ≤ x ∧ x ≤ 10) (hr : M.legal M.kps M.kl (os.map (·.xs)) = r) : Calls Tryd.prog 23 #[.slice (some ⟨bp, 0, none⟩) 2 2, .slice (some ⟨bl, 0, none⟩) 3 3, .slice OA no oc] w fun e w' => e = .returned (.int .i64 r) ∧ Below w.heap.size w w' := by
  subst hno hr
  refine (legal_ok _ 2 2 M.kps _ 3 M.kl OA oc os w h.tab rfl h.ps h.ls (by decide) M.kps_w hO (by omega) (fun s hs => ⟨by have := (hoi s hs).1; omega, fun x hx => by have := (hoi s hs).2 x hx; unfold M.W64; omega⟩)).mono ?_
  rintro e w' ⟨⟨er, her, hc⟩, hb⟩
  refine ⟨?_, hb⟩
  rcases hc with ⟨h1, -⟩ | ⟨-, rfl⟩
  · exact absurd (k_err her) h1
  · rfl
theorem K47.set {w0 w : World} {bp bl : Nat} (h : K47 w0 w bp bl 30) (h1 : w0.heap.size ≤ bl) (h2 : bp ≠ bl) : K47 w0 (w.setCell ⟨bl, 14, none⟩ (.int .i64 21)) bp bl 21 :=
  ⟨h.bel.setCell (p := ⟨bl, 14, none⟩) h1 _, h.p.set_other (p := ⟨bl, 14, none⟩) h2 _, h.l.set 14 (.int .i64 21), h.tab0⟩
theorem LL.lit {w : World} {b : Nat} {cs : Array Value} {t : TypeId} {ls : List SLc} (hb : Box w b cs t) (h : cs.toList = flat 1 slcell ls) (hi : ∀ s ∈ ls, Sl 1 icell w w.heap.size s.A s.xs) : LL w (some ⟨b, 0, none⟩) ls := ⟨Sl.of_box hb h, hi⟩
set_option maxHeartbeats 64000000 in
theorem known47_any (w : World) (ht : Tab64 w) : Calls Tryd.prog 9 #[] w fun e w' => e = .returned (.bool true) ∧ Below w.heap.size w w' := by
  obtain ⟨V, HW, x1, x2, hB, -⟩ := boxes2 w kpsc 65 (klc 30) 26
  have kw : K47 w V w.heap.size (w.heap.size + 1) 30 := ⟨hB, x1, x2, ht⟩
  have hV := HW.out
  clear x1 x2 hB ht
  go_enter Tryd.func9, Tryd.ntmps9
  go_wp2_with fail
  refine (kGroups kw).mono ?_
  clear hV
  rintro e w2 ⟨⟨A1, c1, ls, rfl, hll, hls⟩, hb2⟩
  replace kw := kw.next hb2
  clear hb2
  go_wp2_with fail
  refine (kBefore kw).mono ?_
  rintro e w3 ⟨⟨A2, c2, rfl, hS2⟩, hb3⟩
  replace kw := kw.next hb3
  replace hll := hll.next hb3
  clear hb3
  go_wp2_with fail
  refine (kDepth kw).mono ?_
  rintro e w4 ⟨rfl, hb4⟩
  replace kw := kw.next hb4
  replace hll := hll.next hb4
  replace hS2 := (hS2.below hb4).more hb4.size
  clear hb4
  have hll3 : ls.length = 3 := by have := congrArg List.length hls; rw [List.length_map] at this; exact this
  obtain ⟨V1, HV1, ya0, ya1, ya2, ya3, hBV1, hsV1⟩ := boxes4 w4 #[.int .i64 3] 3 #[.int .i64 2] 3 #[.int .i64 1] 3 #[.slice (some ⟨w4.heap.size, 0, none⟩) 1 1, .slice (some ⟨w4.heap.size + 1, 0, none⟩) 1 1, .slice (some ⟨w4.heap.size + 1 + 1, 0, none⟩) 1 1] 39
  have la : LL V1 (some ⟨w4.heap.size + 1 + 1 + 1, 0, none⟩) [⟨some ⟨w4.heap.size, 0, none⟩, 1, [3]⟩, ⟨some ⟨w4.heap.size + 1, 0, none⟩, 1, [2]⟩, ⟨some ⟨w4.heap.size + 1 + 1, 0, none⟩, 1, [1]⟩] := LL.lit ya3 rfl (fun s hs => by
    simp only [List.mem_cons, List.not_mem_nil, or_false] at hs
    rcases hs with rfl | rfl | rfl
    · exact Sl.of_box ya0 rfl
    · exact Sl.of_box ya1 rfl
    · exact Sl.of_box ya2 rfl)
  have hV1 := HV1.out
  clear hsV1 ya0 ya1 ya2 ya3
  have kS := rSameLists_any A1 _ c1 3 ls [⟨some ⟨w4.heap.size, 0, none⟩, 1, [3]⟩, ⟨some ⟨w4.heap.size + 1, 0, none⟩, 1, [2]⟩, ⟨some ⟨w4.heap.size + 1 + 1, 0, none⟩, 1, [1]⟩] V1 (hll.next hBV1) la (by omega) (fun s hs => by
    have h1 : s.xs ∈ ls.map (·.xs) := List.mem_map.2 ⟨s, hs, rfl⟩
    rw [hls] at h1
    simp only [List.mem_cons, List.not_mem_nil, or_false] at h1
    rcases h1 with h1 | h1 | h1 <;> rw [h1] <;> decide)
  rw [hll3, hls, show List.map (fun (x : SLc) => x.xs) [⟨some ⟨w4.heap.size, 0, none⟩, 1, [3]⟩, ⟨some ⟨w4.heap.size + 1, 0, none⟩, 1, [2]⟩, ⟨some ⟨w4.heap.size + 1 + 1, 0, none⟩, 1, [1]⟩] = [[3], [2], [1]] from rfl, decide_eq_true rfl] at kS
  replace kw := kw.next hBV1
  replace hS2 := (hS2.below hBV1).more hBV1.size
  clear hBV1 la hll hls HV1
  go_wp2_with fail
  clear hV1
  refine kS.mono ?_
  rintro e w5 ⟨rfl, hb5⟩
  clear kS
  replace kw := kw.next hb5
  replace hS2 := (hS2.below hb5).more hb5.size
  clear hb5
  obtain ⟨V2, HV2, z0, hBV2, -⟩ := boxes1 w5 #[.int .i64 2, .int .i64 3] 3
  have kS := rSame_any A2 _ c2 2 [2, 3] [2, 3] V2 ((hS2.below hBV2).more hBV2.size) (Sl.of_box z0 rfl) (by decide)
  rw [decide_eq_true rfl] at kS
  replace kw := kw.next hBV2
  have hV2 := HV2.out
  clear hBV2 z0 HV2 hS2
  go_wp2_with fail
  clear hV2
  refine kS.mono ?_
  rintro e w6 ⟨rfl, hb6⟩
  clear kS
  replace kw := kw.next hb6
  clear hb6
  obtain ⟨U0, HU0, yu00, yu01, hBU0, hsU0⟩ := boxes2 w6 #[.int .i64 1, .int .i64 2, .int .i64 3] 3 #[.slice (some ⟨w6.heap.size, 0, none⟩) 3 3] 39
  have lu0 : LL U0 (some ⟨w6.heap.size + 1, 0, none⟩) [⟨some ⟨w6.heap.size, 0, none⟩, 3, [1, 2, 3]⟩] := LL.lit yu01 rfl (fun s hs => by
    simp only [List.mem_cons, List.not_mem_nil, or_false] at hs
    rcases hs with rfl
    · exact Sl.of_box yu00 rfl)
  have hU0 := HU0.out
  clear hsU0 yu00 yu01
  replace kw := kw.next hBU0
  have kS := kLegal kw _ 1 1 [⟨some ⟨w6.heap.size, 0, none⟩, 3, [1, 2, 3]⟩] 0 rfl lu0 (by simp) (fun s hs => by
    simp only [List.mem_cons, List.not_mem_nil, or_false] at hs
    rcases hs with rfl <;> exact ⟨by simp, fun x hx => by simp at hx; omega⟩) M.k_l1
  clear hBU0 lu0 HU0
  go_wp2_with fail
  clear hU0
  refine kS.mono ?_
  rintro e v0 ⟨rfl, hb7⟩
  clear kS
  replace kw := kw.next hb7
  clear hb7
  obtain ⟨U1, HU1, yu10, yu11, yu12, yu13, hBU1, hsU1⟩ := boxes4 v0 #[.int .i64 1] 3 #[.int .i64 2] 3 #[.int .i64 3] 3 #[.slice (some ⟨v0.heap.size, 0, none⟩) 1 1, .slice (some ⟨v0.heap.size + 1, 0, none⟩) 1 1, .slice (some ⟨v0.heap.size + 1 + 1, 0, none⟩) 1 1] 39
  have lu1 : LL U1 (some ⟨v0.heap.size + 1 + 1 + 1, 0, none⟩) [⟨some ⟨v0.heap.size, 0, none⟩, 1, [1]⟩, ⟨some ⟨v0.heap.size + 1, 0, none⟩, 1, [2]⟩, ⟨some ⟨v0.heap.size + 1 + 1, 0, none⟩, 1, [3]⟩] := LL.lit yu13 rfl (fun s hs => by
    simp only [List.mem_cons, List.not_mem_nil, or_false] at hs
    rcases hs with rfl | rfl | rfl
    · exact Sl.of_box yu10 rfl
    · exact Sl.of_box yu11 rfl
    · exact Sl.of_box yu12 rfl)
  have hU1 := HU1.out
  clear hsU1 yu10 yu11 yu12 yu13
  replace kw := kw.next hBU1
  have kS := kLegal kw _ 3 3 [⟨some ⟨v0.heap.size, 0, none⟩, 1, [1]⟩, ⟨some ⟨v0.heap.size + 1, 0, none⟩, 1, [2]⟩, ⟨some ⟨v0.heap.size + 1 + 1, 0, none⟩, 1, [3]⟩] 10 rfl lu1 (by simp) (fun s hs => by
    simp only [List.mem_cons, List.not_mem_nil, or_false] at hs
    rcases hs with rfl | rfl | rfl <;> exact ⟨by simp, fun x hx => by simp at hx; omega⟩) M.k_l2
  clear hBU1 lu1 HU1
  go_wp2_with fail
  clear hU1
  refine kS.mono ?_
  rintro e v1 ⟨rfl, hb7⟩
  clear kS
  replace kw := kw.next hb7
  clear hb7
  obtain ⟨U2, HU2, yu20, yu21, yu22, hBU2, hsU2⟩ := boxes3 v1 #[.int .i64 3] 3 #[.int .i64 2] 3 #[.slice (some ⟨v1.heap.size, 0, none⟩) 1 1, .slice (some ⟨v1.heap.size + 1, 0, none⟩) 1 1] 39
  have lu2 : LL U2 (some ⟨v1.heap.size + 1 + 1, 0, none⟩) [⟨some ⟨v1.heap.size, 0, none⟩, 1, [3]⟩, ⟨some ⟨v1.heap.size + 1, 0, none⟩, 1, [2]⟩] := LL.lit yu22 rfl (fun s hs => by
    simp only [List.mem_cons, List.not_mem_nil, or_false] at hs
    rcases hs with rfl | rfl
    · exact Sl.of_box yu20 rfl
    · exact Sl.of_box yu21 rfl)
  have hU2 := HU2.out
  clear hsU2 yu20 yu21 yu22
  replace kw := kw.next hBU2
  have kS := kLegal kw _ 2 2 [⟨some ⟨v1.heap.size, 0, none⟩, 1, [3]⟩, ⟨some ⟨v1.heap.size + 1, 0, none⟩, 1, [2]⟩] 9 rfl lu2 (by simp) (fun s hs => by
    simp only [List.mem_cons, List.not_mem_nil, or_false] at hs
    rcases hs with rfl | rfl <;> exact ⟨by simp, fun x hx => by simp at hx; omega⟩) M.k_l3
  clear hBU2 lu2 HU2
  go_wp2_with fail
  clear hU2
  refine kS.mono ?_
  rintro e v2 ⟨rfl, hb7⟩
  clear kS
  replace kw := kw.next hb7
  clear hb7
  have cl := kw.l.cell 14 rfl
  have fl := kw.l.frozen 14
  go_wp2_with fail
  replace kw := kw.set (Nat.le_succ _) (by omega)
  clear cl fl
  refine (kGroups2 kw).mono ?_
  rintro e t1 ⟨⟨A1, c1, ls, rfl, hll, hls⟩, hb2⟩
  replace kw := kw.next hb2
  clear hb2
  go_wp2_with fail
  refine (kDepth2 kw).mono ?_
  rintro e t2 ⟨rfl, hb4⟩
  replace kw := kw.next hb4
  replace hll := hll.next hb4
  clear hb4
  have hll2 : ls.length = 2 := by have := congrArg List.length hls; rw [List.length_map] at this; exact this
  obtain ⟨V9, HV9, ye0, ye1, ye2, hBV9, hsV9⟩ := boxes3 t2 #[.int .i64 2, .int .i64 3] 3 #[.int .i64 1] 3 #[.slice (some ⟨t2.heap.size, 0, none⟩) 2 2, .slice (some ⟨t2.heap.size + 1, 0, none⟩) 1 1] 39
  have le : LL V9 (some ⟨t2.heap.size + 1 + 1, 0, none⟩) [⟨some ⟨t2.heap.size, 0, none⟩, 2, [2, 3]⟩, ⟨some ⟨t2.heap.size + 1, 0, none⟩, 1, [1]⟩] := LL.lit ye2 rfl (fun s hs => by
    simp only [List.mem_cons, List.not_mem_nil, or_false] at hs
    rcases hs with rfl | rfl
    · exact Sl.of_box ye0 rfl
    · exact Sl.of_box ye1 rfl)
  have hV9 := HV9.out
  clear hsV9 ye0 ye1 ye2
  have kS := rSameLists_any A1 _ c1 2 ls [⟨some ⟨t2.heap.size, 0, none⟩, 2, [2, 3]⟩, ⟨some ⟨t2.heap.size + 1, 0, none⟩, 1, [1]⟩] V9 (hll.next hBV9) le (by omega) (fun s hs => by
    have h1 : s.xs ∈ ls.map (·.xs) := List.mem_map.2 ⟨s, hs, rfl⟩
    rw [hls] at h1
    simp only [List.mem_cons, List.not_mem_nil, or_false] at h1
    rcases h1 with h1 | h1 <;> rw [h1] <;> decide)
  rw [hll2, hls, show List.map (fun (x : SLc) => x.xs) [⟨some ⟨t2.heap.size, 0, none⟩, 2, [2, 3]⟩, ⟨some ⟨t2.heap.size + 1, 0, none⟩, 1, [1]⟩] = [[2, 3], [1]] from rfl, decide_eq_true rfl] at kS
  replace kw := kw.next hBV9
  clear hBV9 le hll hls HV9
  go_wp2_with fail
  clear hV9
  refine kS.mono ?_
  rintro e t5 ⟨rfl, hb5⟩
  clear kS
  replace kw := kw.next hb5
  clear hb5
  go_wp2_with fail
  go_ret
  exact ⟨rfl, kw.bel⟩
end Go.Proofs.YtceobfigfmnacaaDoor
end

section
namespace Go.Proofs.YtceobfigfmnacaaDoor
open Go Go.RowKit
set_option maxRecDepth 100000
def fnl {α : Type} (n : Nat) (f : Nat → α) : List α := (List.range n).map f
section
variable {α : Type} {n : Nat} {f g : Nat → α}
theorem fnl_len : (fnl n f).length = n := by simp [fnl]
theorem fnl_at {k : Nat} (hk : k < (fnl n f).length) : (fnl n f)[k] = f k := by simp [fnl]
theorem fnl_congr (h : ∀ k, k < n → f k = g k) : fnl n f = fnl n g := by
  unfold fnl
  exact List.map_congr_left fun k hk => h k (List.mem_range.1 hk)
theorem fnl_set (k : Nat) (x : α) : (fnl n f).set k x = fnl n fun j => if j = k then x else f j := by
  apply List.ext_getElem
  · simp [fnl]
  · intro i h1 h2
    rw [List.getElem_set, fnl_at h2, fnl_at (by simpa using h1)]
    by_cases e : k = i
    · subst e; simp
    · rw [if_neg e, if_neg (fun h => e h.symm)]
end
def hvc (v : Value) (_ : Nat) : Value := v
def hdr (b : Nat → Nat) (n m : Nat) (i : Nat) : Value := if i < m then .slice (some ⟨b i, 0, none⟩) n n else .slice none 0 0
abbrev BR (w : World) (base g n : Nat) (f : Nat → Bool) : Prop := w.ownsRow base 4 1 (.slice (some ⟨g, 0, none⟩) n n) n (flat 1 blc (fnl n f))
section
variable {w : World} {base g n : Nat} {f : Nat → Bool}
theorem BR.at (h : BR w base g n f) {k : Nat} (hk : k < n) : w.cell? ⟨g, k, none⟩ = some (.bool (f k)) ∧ w.frozen? ⟨g, k, none⟩ = false := by
  have := own_at (size := 1) (cell := blc) h (k := k) (j := 0) (by rw [fnl_len]; exact hk) (by decide)
  rw [Nat.mul_one, Nat.add_zero, fnl_at] at this
  exact this
theorem BR.set (h : BR w base g n f) {k : Nat} (hk : k < n) (v : Bool) : BR (w.setCell ⟨g, k, none⟩ (.bool v)) base g n (fun j => if j = k then v else f j) := by
  have h3 := own_set (size := 1) (cell := blc) h (k := k) (by rw [fnl_len]; exact hk) (j := 0) (y := v) (u := .bool v) (by decide) rfl (fun j' h1 h2 => absurd h1 (by omega))
  rw [Nat.mul_one, Nat.add_zero, fnl_set] at h3
  exact h3
theorem BR.congr {f' : Nat → Bool} (h : BR w base g n f) (e : ∀ k, k < n → f k = f' k) : BR w base g n f' := by
  unfold BR at *
  rw [← fnl_congr e]
  exact h
end
structure TB (w : World) (base g n m : Nat) (b : Nat → Nat) (f : M.Tb) : Prop where
  outer : w.ownsRow base 54 1 (.slice (some ⟨g, 0, none⟩) n n) n (flat 1 hvc (fnl n (hdr b n m)))
  row : ∀ i, i < m → BR w base (b i) n (f i)
  mono : ∀ i j, i < j → j < m → b i < b j
  far : ∀ i, i < m → g < b i
section
variable {w w' : World} {base g n m : Nat} {b : Nat → Nat} {f : M.Tb}
theorem TB.next (h : TB w base g n m b f) (hb : Below w.heap.size w w') : TB w' base g n m b f := ⟨own_below h.outer hb, fun i hi => own_below (h.row i hi) hb, h.mono, h.far⟩
theorem TB.head (h : TB w base g n m b f) {i : Nat} (hm : m ≤ n) (hi : i < m) : w.cell? ⟨g, i, none⟩ = some (.slice (some ⟨b i, 0, none⟩) n n) := by
  have := (own_at (size := 1) (cell := hvc) h.outer (k := i) (j := 0) (by rw [fnl_len]; omega) (by decide)).1
  rw [Nat.mul_one, Nat.add_zero, fnl_at] at this
  rw [this]
  unfold hvc hdr
  rw [if_pos hi]
theorem TB.at (h : TB w base g n m b f) {i k : Nat} (hi : i < m) (hk : k < n) : w.cell? ⟨b i, k, none⟩ = some (.bool (f i k)) ∧ w.frozen? ⟨b i, k, none⟩ = false := (h.row i hi).at hk
theorem TB.lt (h : TB w base g n m b f) {i : Nat} (hi : i < m) : base ≤ b i ∧ b i < w.heap.size := own_lt (h.row i hi)
theorem TB.inj (h : TB w base g n m b f) {i j : Nat} (hi : i < m) (hj : j < m) (e : b i = b j) : i = j := by
  rcases Nat.lt_trichotomy i j with h1 | h1 | h1
  · have := h.mono i j h1 hj; omega
  · exact h1
  · have := h.mono j i h1 hi; omega
theorem TB.set (h : TB w base g n m b f) {i k : Nat} (hi : i < m) (hk : k < n) (v : Bool) : TB (w.setCell ⟨b i, k, none⟩ (.bool v)) base g n m b (M.upd f i k v) := by
  refine ⟨h.outer.kept (grown_set w (b i) k (.bool v)) (.inr (fun e => by have e2 : g = b i := Option.some.inj e; have := h.far i hi; omega)), fun j hj => ?_, h.mono, h.far⟩
  by_cases e : j = i
  · subst e
    have h3 := (h.row j hj).set hk v
    refine h3.congr fun c _ => ?_
    unfold M.upd
    by_cases e2 : c = k
    · subst e2; rw [if_pos rfl, if_pos ⟨rfl, rfl⟩]
    · rw [if_neg e2, if_neg (fun h => e2 h.2)]
  · have h3 := World.ownsRow.kept (h.row j hj) (grown_set w (b i) k (.bool v)) (.inr (fun e2 => e (h.inj hj hi (Option.some.inj e2))))
    refine BR.congr (f := f j) h3 fun c _ => ?_
    unfold M.upd
    rw [if_neg (fun h => e h.1)]
theorem TB.kept {row : Option Nat} (h : TB w base g n m b f) (hg : w.grownBy w' row) (h1 : row ≠ some g) (h2 : ∀ i, i < m → row ≠ some (b i)) : TB w' base g n m b f :=
  ⟨h.outer.kept hg (.inr (fun e => h1 e.symm)), fun i hi => (World.ownsRow.kept (h.row i hi) hg (.inr (fun e => h2 i hi e.symm))), h.mono, h.far⟩
theorem TB.more (h : TB w base g n m b f) {c : Nat} (hm : m < n) (hr : BR w base c n (fun _ => false)) (hc : ∀ i, i < m → b i < c) (hgc : g < c) :
    TB (w.setCell ⟨g, m, none⟩ (.slice (some ⟨c, 0, none⟩) n n)) base g n (m + 1) (fun i => if i = m then c else b i) (fun i k => if i = m then false else f i k) := by
  refine ⟨?_, fun i hi => ?_, fun i j hij hj => ?_, fun i hi => ?_⟩
  · have h3 := own_set (size := 1) (cell := hvc) h.outer (k := m) (by rw [fnl_len]; exact hm) (j := 0) (y := .slice (some ⟨c, 0, none⟩) n n) (u := .slice (some ⟨c, 0, none⟩) n n) (by decide) rfl (fun j' h1 h2 => absurd h1 (by omega))
    rw [Nat.mul_one, Nat.add_zero, fnl_set] at h3
    have e : (fun j => if j = m then Value.slice (some ⟨c, 0, none⟩) n n else hdr b n m j) = hdr (fun i => if i = m then c else b i) n (m + 1) := by
      funext j
      unfold hdr
      by_cases e : j = m
      · subst e; rw [if_pos rfl, if_pos (by omega)]; simp
      · rw [if_neg e]
        by_cases h4 : j < m
        · rw [if_pos h4, if_pos (by omega)]; simp [e]
        · rw [if_neg h4, if_neg (by omega)]
    rwa [e] at h3
  · by_cases e : i = m
    · subst e
      simp only [if_pos]
      exact World.ownsRow.kept hr (grown_set w g i _) (.inr (fun e => by have e2 : c = g := Option.some.inj e; omega))
    · simp only [if_neg e]
      exact World.ownsRow.kept (h.row i (by omega)) (grown_set w g m _) (.inr (fun e2 => by have e2 : b i = g := Option.some.inj e2; have := h.far i (by omega); omega))
  · by_cases e : j = m
    · subst e
      have e3 : i ≠ j := by omega
      simp only [if_neg e3, if_pos]
      exact hc i hij
    · have e3 : i ≠ m := by omega
      simp only [if_neg e3, if_neg e]
      exact h.mono i j hij (by omega)
  · by_cases e : i = m
    · subst e; simp only [if_pos]; exact hgc
    · simp only [if_neg e]; exact h.far i (by omega)
theorem TB.congr {f' : M.Tb} (h : TB w base g n m b f) (e : ∀ i k, i < m → k < n → f i k = f' i k) : TB w base g n m b f' := ⟨h.outer, fun i hi => (h.row i hi).congr (fun k hk => e i k hi hk), h.mono, h.far⟩
end
end Go.Proofs.YtceobfigfmnacaaDoor
end

section
namespace Go.Proofs.YtceobfigfmnacaaDoor
open Go Go.RowKit
set_option maxRecDepth 100000
namespace M
structure Ints (ps : List P5) (l : List Mv) : Prop where
 p : ∀ p ∈ ps, W64 p.a ∧ W64 p.b ∧ W64 p.c
 l : ∀ m ∈ l, W64 m.st ∧ W64 m.old ∧ W64 m.new
end M
theorem rWaits_in (PA : Option Addr) (pc np : Nat) (ps : List P5) (l : List Mv) (w : World) (hnp : np = ps.length) (hP : Sl 5 p5cell w w.heap.size PA ps) (hpl : ps.length ≤ 9223372036854775806) (hi : M.Ints ps l) {i k : Nat} (h1 : i < l.length) (h2 : k < l.length) (u : World) (hu : Below w.heap.size w u) :
  Calls Tryd.prog 13 #[.slice PA np pc, mvv l[i], mvv l[k]] u fun e w' => e = .returned (.bool (M.dep0 (M.rows ps l) i k)) ∧ Below u.heap.size u w' := by
 subst hnp
 have h3 := rWaits_ok PA pc ps l[i] l[k] u ((hP.below hu).more hu.size) hpl
 rw [M.rwaits_eq (hi.l _ (List.getElem_mem h1)).2.2 (hi.l _ (List.getElem_mem h2)).2.1 (fun p hp => (hi.p p hp).2.2), ← M.rows_at h1 h2] at h3
 exact h3
end Go.Proofs.YtceobfigfmnacaaDoor
end

section
namespace Go.Proofs.YtceobfigfmnacaaDoor
open Go Go.RowKit
set_option maxRecDepth 100000
namespace M
end M
end Go.Proofs.YtceobfigfmnacaaDoor
end
