/- A bundle of texts: Lg1. -/
import Derived.Test.YtceobfigfmnacaaDoorE18
section
namespace Go.Proofs.YtceobfigfmnacaaDoor
open Go Go.RowKit Go.Maps
set_option maxRecDepth 100000
structure LS (w3 W : World) (bm b10 cnt : Nat) (D : DataW Unit) : Prop where
  bel : Below w3.heap.size w3 W
  own : W.ownsMap Tryd.prog 3 (plainElem (H := Unit) Tryd.prog 3) bm cnt D
  x10 : Box W b10 #[.map (some bm)] 56
section
variable {w3 W W' : World} {bm b10 cnt : Nat} {D : DataW Unit}
theorem LS.next (h : LS w3 W bm b10 cnt D) (hb : Below W.heap.size W W') : LS w3 W' bm b10 cnt D := ⟨after_ h.bel hb, h.own.kept (below_grown hb) (by simp), h.x10.below hb⟩
theorem LS.own' {row : Option Nat} {B : Nat} (h : LS w3 W bm b10 cnt D) (hB : w3.heap.size ≤ B) (hm : bm < B) (hg : W.grownBy W' row) (hr : ∀ r, row = some r → B ≤ r ∧ ∃ o : Obj, W.heap[r]? = some o ∧ o.isCells = false) : LS w3 W' bm b10 cnt D :=
  ⟨below_own h.bel hB h.bel.size hg hr, h.own.kept hg (fun e => by have := (hr _ e.symm).1; omega), h.x10.own hg hr⟩
end
set_option maxHeartbeats 32000000 in
theorem legal_ok (PA : Option Addr) (pc np : Nat) (ps : List P5) (LA : Option Addr) (lc : Nat) (l : List Mv) (OA : Option Addr) (oc : Nat) (os : List SLc) (w : World) (ht : Tab64 w) (hnp : np = ps.length) (hP : Sl 5 p5cell w w.heap.size PA ps) (hL : Sl 6 mvcell w w.heap.size LA l) (hl : l.length ≤ 9223372036854775806) (hw : ∀ p ∈ ps, M.W64 p.a ∧ M.W64 p.b) (hO : LL w OA os) (hol : os.length ≤ 9223372036854775806) (hoi : ∀ s ∈ os, s.xs.length ≤ 9223372036854775806 ∧ ∀ x ∈ s.xs, M.W64 x) :
    Calls Tryd.prog 23 #[.slice PA np pc, .slice LA l.length lc, .slice OA os.length oc] w fun e w' => (∃ er, M.errIs ps l er ∧ ((er ≠ 0 ∧ e = .returned (.int .i64 er)) ∨ (er = 0 ∧ e = .returned (.int .i64 (M.legal ps l (os.map (·.xs))))))) ∧ Below w.heap.size w w' := by
  obtain ⟨V, HW, x6, hB, hsV⟩ := boxes1 w #[.int .i64 0] 34
  have kG := graph_ok PA pc np ps LA lc l V hnp ((hP.below hB).more hB.size) ((hL.below hB).more hB.size) hl hw
  have HOI := Lib.hid hoi
  clear hnp hw hP hoi
  have hV := HW.out
  clear hsV
  refine calls_marks Tryd.func23 rfl ?_
  simp only [Tryd.ntmps23, List.size_toArray, List.length_cons, List.length_nil, Nat.reduceAdd, Nat.reduceSub, Array.replicate_succ, Array.replicate_zero, List.push_toArray, List.append_toArray, List.nil_append, List.cons_append]
  go_wp2_with fail
  clear hV
  refine kG.mono ?_
  rintro e w2 ⟨⟨er, her, hcase⟩, hb2⟩
  clear kG
  have B2 := after_ hB hb2
  have y6 := x6.below hb2
  rcases hcase with ⟨hne, rfl⟩ | ⟨rfl, g, bg, arcs, rfl, hg, hGO⟩
  · have q0 : (er == 0) = false := by simpa using hne
    have q1 : (er != 0) = true := by simpa using hne
    have HER := Lib.hid her
    have HE0 := Lib.hid hne
    clear her hne
    have c6 := y6.c1
    have f6 := y6.frozen 0
    go_wp2_with fail
    have z := y6.set 0 (.int .i64 er)
    have hBs := B2.setCell (p := ⟨w.heap.size, 0, none⟩) (Nat.le_refl _) (.int .i64 er)
    refine leaves_marks (B := w.heap.size) (C := w.heap.size) _ _ Marks.none_ (fun W' hs => ?_)
    have z0 := (hs.box z).c1
    refine ⟨.int .i64 er, ?_, ⟨er, HER.out, .inl ⟨HE0.out, rfl⟩⟩, hBs.trans hs.below⟩
    simp [results, Tryd.results23, go_sem, z0]
  · have HER := Lib.hid her
    have hok : M.mvsOk l := by
      rcases HER.out with ⟨h1, h2, -⟩ | ⟨-, -, h⟩ | ⟨-, h⟩
      · exact h1
      · cases h
      · cases h
    have HOK := Lib.hid hok
    have hR := M.rows_ok (ps := ps) hok.1
    have hl512 := hok.1
    have HRL : Hid ((M.rows ps l).length = l.length) := Lib.hid (M.rows_len ps l)
    have hdg := hGO.dg
    have kP := positions_ok LA lc l w2 ((hL.below B2).more B2.size) hok
    clear her hok
    go_wp2_with fail
    refine kP.mono ?_
    rintro e w3 ⟨bp, D, rfl, hbp, hpos, hD, hb3⟩
    clear kP
    have B3 := after_ B2 hb3
    have z6 := y6.below hb3
    have hmm : (Instr.makeMap 56 none).run Tryd.prog w3 = .ok (.map (some w3.heap.size)) (w3.alloc (.map #[] 0)) := by
      simp [Instr.makeMap, Result.andThen]
    obtain ⟨U, HU⟩ : ∃ U, Hid (w3.alloc (.map #[] 0) = U) := ⟨_, Lib.hid rfl⟩
    have hU := HU.out
    have hbU : Below w3.heap.size w3 U := by rw [← hU]; exact (Below.refl _ _).alloc (Nat.le_refl _) _
    have hown : U.ownsMap Tryd.prog 3 (plainElem (H := Unit) Tryd.prog 3) w3.heap.size 0 (.map []) := by rw [← hU]; exact World.ownsMap_made _ _ _ _
    obtain ⟨X, HX, x10, hbX, hsX⟩ := boxes1 U #[.map (some w3.heap.size)] 56
    have hX := HX.out
    clear hsX
    go_wp2_with fail
    clear hU hX hmm
    have ls0 : LS w3 X w3.heap.size U.heap.size 0 (.map []) := ⟨hbU.trans (hbX.mono hbU.size), hown.kept (below_grown hbX) (by simp), x10⟩
    have HST0 : Hid (M.place l (List.replicate l.length none) (M.flatO 0 (os.map (·.xs))) = M.setOf l (os.map (·.xs))) := Lib.hid rfl
    have HB10 : Hid (w3.heap.size < U.heap.size) := Lib.hid (by obtain ⟨es, clock, hb, -⟩ := hown; exact (Array.getElem?_eq_some_iff.1 hb).1)
    clear hown x10 hbX hbU HX HU
    generalize U.heap.size = b10 at *
    refine wp_loop_mrg [11, 12, 14, 15, 16, 17, 18, 35, 36, 37, 38, 39, 40, 41, 42, 43, 44, 45, 46, 47, 48, 49, 50, 51, 52, 53, 54, 55, 56, 57, 58, 59, 60, 61, 62, 63, 64, 65, 66, 67] (fun mm f ds W0 => ds = [] ∧ ∃ (i : Nat) (S : List (Option Nat)) (cnt : Nat) (D : DataW Unit), f 35 = .int .i64 i ∧ mm = os.length - i ∧ i ≤ os.length ∧ LS w3 W0 w3.heap.size b10 cnt D ∧ Hid (SetD D S ∧ cnt = cntS S ∧ S.length = l.length ∧ M.place l S (M.flatO i ((os.map (·.xs)).drop i)) = M.setOf l (os.map (·.xs)))) os.length ⟨rfl, 0, List.replicate l.length none, 0, .map [], rfl, rfl, Nat.zero_le _, ls0, Lib.hid ⟨SetD.start _, (cntS_start _).symm, by simp, HST0.out⟩⟩ ?_
    clear ls0
    intro c2' T2' hc2 hT2
    rintro mm f ds W0 ⟨rfl, i, S, cnt, D2, hf35, rfl, hi, hls, HSS⟩
    replace hc2 := hc2.out
    subst hc2
    replace hT2 := hT2.out
    subst hT2
    generalize hF : mrgF _ 0 _ _ = F
    simp only [mrg_hit, mrg_miss, mrg_end, Nat.reduceBEq, Nat.reduceAdd] at hF
    rw [hf35] at hF
    subst hF
    by_cases hlt : i < os.length
    · have x0 : (0 : Int) ≤ (i : Int) := by omega
      have x1 : (i : Int) < (os.length : Int) := by omega
      have q0 : decide ((i : Int) < (os.length : Int)) = true := decide_eq_true x1
      have B0 := after_ B3 hls.bel
      obtain ⟨la, hla, hlb, a0⟩ := (hO.next B0).outer.one_at hlt
      have HIN : Hid (∀ W, Below w.heap.size w W → Sl 1 icell W W.heap.size os[i].A os[i].xs) := Lib.hid (fun W hb => (hO.next hb).inner _ (List.getElem_mem hlt))
      have HXI := Lib.hid (HOI.out os[i] (List.getElem_mem hlt))
      have HFD : Hid (M.flatO i ((os.map (·.xs)).drop i) = os[i].xs.map (fun st => (i, st)) ++ M.flatO (i + 1) ((os.map (·.xs)).drop (i + 1))) := Lib.hid (by rw [M.flatO_drop (by simpa using hlt), List.getElem_map])
      have hsl := (HOI.out os[i] (List.getElem_mem hlt)).1
      generalize os[i] = s at *
      rw [show slcell s 0 = .slice s.A s.xs.length s.c from rfl] at a0
      subst hla
      go_wp2_with fail
      clear a0
      have HS1 : Hid (SetD D2 S ∧ cnt = cntS S ∧ S.length = l.length ∧ M.place l S ((s.xs.map (fun st => (i, st))).drop 0 ++ M.flatO (i + 1) ((os.map (·.xs)).drop (i + 1))) = M.setOf l (os.map (·.xs))) := Lib.hid ⟨HSS.out.1, HSS.out.2.1, HSS.out.2.2.1, by rw [List.drop_zero, ← HFD.out]; exact HSS.out.2.2.2⟩
      refine wp_loop_mrg [14, 15, 16, 17, 18, 42, 43, 44, 45, 46, 47, 48, 49, 50, 51, 52, 53, 54, 55, 56, 57, 58, 59, 60, 61, 62, 63, 64, 65, 66] (fun mm f ds W1 => ds = [] ∧ ∃ (j : Nat) (S : List (Option Nat)) (cnt : Nat) (D : DataW Unit), f 42 = .int .i64 j ∧ mm = s.xs.length - j ∧ j ≤ s.xs.length ∧ LS w3 W1 w3.heap.size b10 cnt D ∧ Hid (SetD D S ∧ cnt = cntS S ∧ S.length = l.length ∧ M.place l S ((s.xs.map (fun st => (i, st))).drop j ++ M.flatO (i + 1) ((os.map (·.xs)).drop (i + 1))) = M.setOf l (os.map (·.xs)))) s.xs.length ⟨rfl, 0, S, cnt, D2, rfl, rfl, Nat.zero_le _, hls, HS1⟩ ?_
      clear hls HS1 HSS
      intro c3' T3' hc2 hT2
      rintro mm f ds W1 ⟨rfl, j, S1, cnt1, D1, hf42, rfl, hj, hl1, HS1⟩
      replace hc2 := hc2.out
      subst hc2
      replace hT2 := hT2.out
      subst hT2
      generalize hF : mrgF _ 0 _ _ = F
      simp only [mrg_hit, mrg_miss, mrg_end, Nat.reduceBEq, Nat.reduceAdd] at hF
      rw [hf42] at hF
      subst hF
      by_cases hjl : j < s.xs.length
      · have B1 := after_ B3 hl1.bel
        obtain ⟨lb, hlb1, hlb2, b0⟩ := (HIN.out W1 B1).int_at hjl
        have HMC : Hid ((s.xs.map (fun st => (i, st))).drop j = (i, s.xs[j]) :: (s.xs.map (fun st => (i, st))).drop (j + 1)) := Lib.hid (by rw [List.drop_eq_getElem_cons (by simpa using hjl), List.getElem_map])
        have hwf := wf64 (HXI.out.2 s.xs[j] (List.getElem_mem hjl))
        have HKY := Lib.hid (Maps.keyOf_int_mk (P := Tryd.prog) Tryd.underlying3 hwf)
        obtain ⟨v, r, hh, ha, hr1, hr0, hvl⟩ := hD.get2 s.xs[j]
        have HH := Lib.hid hh; have HA := Lib.hid ha; have HR1 := Lib.hid hr1; have HR0 := Lib.hid hr0
        have x2 : (0 : Int) ≤ (j : Int) := by omega
        have x3 : (j : Int) < (s.xs.length : Int) := by omega
        have q4 : decide ((j : Int) < (s.xs.length : Int)) = true := decide_eq_true x3
        clear hh ha hr1 hr0 hwf
        obtain ⟨g1, g2⟩ := HS1.out.1.get v
        obtain ⟨r2, hr2⟩ : ∃ r2, (S1.getD v none).isSome = r2 := ⟨_, rfl⟩
        obtain ⟨c2, hc2⟩ : ∃ c2, (S1.getD v none).getD 0 = c2 := ⟨_, rfl⟩
        rw [hr2] at g1
        rw [hc2] at g2
        have HG1 := Lib.hid g1; have HG2 := Lib.hid g2; have HRR := Lib.hid hr2
        have HKV : Hid (v ≤ 512 → keyOf Tryd.prog 3 (.int .i64 (v : Int)) = some (.int .i64 (v : Int))) := Lib.hid (fun h => Maps.keyOf_int_mk (P := Tryd.prog) Tryd.underlying3 (wf64 ⟨by omega, by omega⟩))
        clear g1 g2 hr2 hc2
        have hpos1 := hpos.kept (below_grown hl1.bel) (by simp)
        generalize s.xs[j] = st at *
        rw [hlb1]
        clear hlb1
        have hv512 : v ≤ 512 := by omega
        replace HKV := Lib.hid (HKV.out hv512)
        have c10 := hl1.x10.c1
        have o10 := hl1.own
        have q6 := z6.below hl1.bel
        have c6 := q6.c1
        have f6 := q6.frozen 0
        have hcm := cntS_le S1
        have HCM : Hid (cnt1 < maxLen) := Lib.hid (by have := HS1.out.2.1; have := HS1.out.2.2.1; unfold maxLen; omega)
        have HWI : Hid ((Lit.int .i64 (i : Int)).wf = true) := Lib.hid (wf64 ⟨by omega, by omega⟩)
        have HSP : Hid (M.place l S1 ((i, st) :: ((s.xs.map (fun st => (i, st))).drop (j + 1) ++ M.flatO (i + 1) ((os.map (·.xs)).drop (i + 1)))) = M.setOf l (os.map (·.xs))) := Lib.hid (by
          have h := HS1.out.2.2.2
          rw [HMC.out, List.cons_append] at h
          exact h)
        have HS1L := Lib.hid HS1.out.2.2.1
        have HSD := Lib.hid HS1.out.1
        have HSC := Lib.hid HS1.out.2.1
        clear hcm HS1 HMC
        cases r with
        | false =>
          go_wp2_with (first | (at_lookup; refine wpList_pos rfl _ _ 56 rfl 3 3 (Maps.int_keyed Tryd.underlying3) Tryd.underlying56 Tryd.underlying3 (zeroIntG _) bp l.length D rfl hpos1 (.int .i64 st) _ rfl HKY.out v false HH.out HA.out ?_) | (at_lookup; refine wpList_pos rfl _ _ 56 rfl 3 3 (Maps.int_keyed Tryd.underlying3) Tryd.underlying56 Tryd.underlying3 (zeroIntG _) w3.heap.size cnt1 D1 rfl o10 (.int .i64 (v : Int)) _ rfl HKV.out c2 r2 HG1.out HG2.out ?_))
          have z := q6.set 0 (.int .i64 2)
          have hBs := B1.setCell (p := ⟨w.heap.size, 0, none⟩) (Nat.le_refl _) (.int .i64 2)
          refine leaves_marks (B := w.heap.size) (C := w.heap.size) _ _ Marks.none_ (fun W' hs => ?_)
          have z0 := (hs.box z).c1
          refine ⟨.int .i64 2, by simp [results, Tryd.results23, go_sem, z0], ⟨0, HER.out, .inr ⟨rfl, ?_⟩⟩, hBs.trans hs.below⟩
          rw [M.legal_two (ps := ps) (l := l) (by rw [← HSP.out]; exact M.place_none (HR0.out (by simp)))]
        | true =>
          cases r2 with
          | true =>
            go_wp2_with (first | (at_lookup; refine wpList_pos rfl _ _ 56 rfl 3 3 (Maps.int_keyed Tryd.underlying3) Tryd.underlying56 Tryd.underlying3 (zeroIntG _) bp l.length D rfl hpos1 (.int .i64 st) _ rfl HKY.out v true HH.out HA.out ?_) | (at_lookup; refine wpList_pos rfl _ _ 56 rfl 3 3 (Maps.int_keyed Tryd.underlying3) Tryd.underlying56 Tryd.underlying3 (zeroIntG _) w3.heap.size cnt1 D1 rfl o10 (.int .i64 (v : Int)) _ rfl HKV.out c2 true HG1.out HG2.out ?_))
            have z := q6.set 0 (.int .i64 2)
            have hBs := B1.setCell (p := ⟨w.heap.size, 0, none⟩) (Nat.le_refl _) (.int .i64 2)
            refine leaves_marks (B := w.heap.size) (C := w.heap.size) _ _ Marks.none_ (fun W' hs => ?_)
            have z0 := (hs.box z).c1
            refine ⟨.int .i64 2, by simp [results, Tryd.results23, go_sem, z0], ⟨0, HER.out, .inr ⟨rfl, ?_⟩⟩, hBs.trans hs.below⟩
            rw [M.legal_two (ps := ps) (l := l) (by rw [← HSP.out]; exact M.place_twice (HR1.out (by simp)).1 HRR.out)]
          | false =>
            have hvl2 := (HR1.out (by simp)).2
            have HNO : Hid (S1.getD v none = none) := Lib.hid (by
              have h := HRR.out
              cases e : S1.getD v none with
              | none => rfl
              | some y => rw [e] at h; cases h)
            have HNX : Hid (Hid (SetD (D1.put (.int .i64 v) (.lit (.int .i64 i))) (S1.set v (some i)) ∧ cnt1 + 1 = cntS (S1.set v (some i)) ∧ (S1.set v (some i)).length = l.length ∧ M.place l (S1.set v (some i)) ((s.xs.map (fun st => (i, st))).drop (j + 1) ++ M.flatO (i + 1) ((os.map (·.xs)).drop (i + 1))) = M.setOf l (os.map (·.xs)))) := Lib.hid (Lib.hid (by
              have hv' : v < S1.length := by rw [HS1L.out]; exact hvl2
              refine ⟨HSD.out.put hv' i HNO.out, ?_, by rw [List.length_set]; exact HS1L.out, ?_⟩
              · rw [cntS_put S1 v i hv' HNO.out, HSC.out]
              · rw [← HSP.out]
                exact (M.place_once (HR1.out (by simp)).1 HRR.out).symm))
            clear HSP HSD HSC HNO
            go_wp2_with (first | (at_lookup; refine wpList_pos rfl _ _ 56 rfl 3 3 (Maps.int_keyed Tryd.underlying3) Tryd.underlying56 Tryd.underlying3 (zeroIntG _) bp l.length D rfl hpos1 (.int .i64 st) _ rfl HKY.out v true HH.out HA.out ?_) | (at_lookup; refine wpList_pos rfl _ _ 56 rfl 3 3 (Maps.int_keyed Tryd.underlying3) Tryd.underlying56 Tryd.underlying3 (zeroIntG _) w3.heap.size cnt1 D1 rfl o10 (.int .i64 (v : Int)) _ rfl HKV.out c2 false HG1.out HG2.out ?_) | (at_mapUpdate; refine wpList_mapUpdate_own _ rfl _ _ _ 56 rfl 3 3 (Maps.int_keyed Tryd.underlying3) Tryd.underlying56 _ w3.heap.size cnt1 _ rfl o10 HCM.out _ _ _ rfl rfl HKV.out _ [] (plainElem_int Tryd.underlying3 HWI.out) ?_; intro w6 hown6 hg6))
            have ls6 : LS w3 w6 w3.heap.size b10 (cnt1 + 1) (D1.put (.int .i64 v) (.lit (.int .i64 i))) := ⟨hl1.bel.grown hg6 hl1.bel.size (fun k e => by cases e; exact Nat.le_refl _), hown6, hl1.x10.grown hg6 (fun e => by have := Option.some.inj e; have := HB10.out; omega)⟩
            exact ⟨rfl, s.xs.length - (j + 1), by omega, j + 1, rfl, rfl, hjl, S1.set v (some i), cnt1 + 1, _, ls6, HNX.out⟩
      · obtain rfl : j = s.xs.length := by omega
        have q4 : decide ((s.xs.length : Int) < (s.xs.length : Int)) = false := decide_eq_false (by omega)
        have HS2 : Hid (Hid (SetD D1 S1 ∧ cnt1 = cntS S1 ∧ S1.length = l.length ∧ M.place l S1 (M.flatO (i + 1) ((os.map (·.xs)).drop (i + 1))) = M.setOf l (os.map (·.xs)))) := Lib.hid (Lib.hid ⟨HS1.out.1, HS1.out.2.1, HS1.out.2.2.1, by
          have h := HS1.out.2.2.2
          rw [List.drop_of_length_le (by simp)] at h
          exact h⟩)
        go_wp2_with fail
        exact ⟨rfl, os.length - (i + 1), by omega, i + 1, rfl, rfl, hlt, S1, cnt1, D1, hl1, HS2.out⟩
    · obtain rfl : i = os.length := by omega
      have q0 : decide ((os.length : Int) < (os.length : Int)) = false := decide_eq_false (by omega)
      have HST : Hid (M.setOf l (os.map (·.xs)) = some S) := Lib.hid (by
        have h := HSS.out.2.2.2
        rw [List.drop_of_length_le (by simp)] at h
        rw [← h]
        rfl)
      have HSD := Lib.hid HSS.out.1
      have HSL := Lib.hid HSS.out.2.2.1
      have HCS := Lib.hid HSS.out.2.1
      have HMS : Hid (Maps.size D2 = cnt) := Lib.hid (by rw [HSS.out.1.sz, HSS.out.2.1])
      clear HSS
      have q6 := z6.below hls.bel
      have c6 := q6.c1
      have f6 := q6.frozen 0
      have c10 := hls.x10.c1
      have o10 := hls.own
      have B0 := after_ B3 hls.bel
      by_cases hfew : cnt < l.length
      · have q1 : decide ((cnt : Int) < (l.length : Int)) = true := decide_eq_true (by omega)
        have HNI : Hid (S.any (fun o => o.isNone) = true) := Lib.hid ((cntS_any S).1 (by rw [← HCS.out, HSL.out]; exact hfew))
        go_wp2_with (at_len; refine wpList_len_own _ rfl _ 56 rfl 3 3 Tryd.underlying56 _ w3.heap.size cnt D2 rfl o10 ?_; rw [HMS.out])
        have z := q6.set 0 (.int .i64 9)
        have hBs := B0.setCell (p := ⟨w.heap.size, 0, none⟩) (Nat.le_refl _) (.int .i64 9)
        refine leaves_marks (B := w.heap.size) (C := w.heap.size) _ _ Marks.none_ (fun W' hs => ?_)
        have z0 := (hs.box z).c1
        refine ⟨.int .i64 9, by simp [results, Tryd.results23, go_sem, z0], ⟨0, HER.out, .inr ⟨rfl, ?_⟩⟩, hBs.trans hs.below⟩
        rw [M.legal_nine (ps := ps) (l := l) HST.out HNI.out]
      · have q1 : decide ((cnt : Int) < (l.length : Int)) = false := decide_eq_false (by omega)
        have HNI : Hid (S.any (fun o => o.isNone) = false) := Lib.hid (by
          cases h : S.any (fun o => o.isNone) with
          | false => rfl
          | true =>
            have := (cntS_any S).2 h
            rw [← HCS.out, HSL.out] at this
            exact absurd this hfew)
        go_wp2_with (at_len; refine wpList_len_own _ rfl _ 56 rfl 3 3 Tryd.underlying56 _ w3.heap.size cnt D2 rfl o10 ?_; rw [HMS.out])
        have HSV : Hid (∀ v, S.getD v none = none → l.length ≤ v) := Lib.hid (fun v hv => by
          rcases Nat.lt_or_ge v l.length with h | h
          · have hv' : v < S.length := by rw [HSL.out]; exact h
            have h1 := HNI.out
            rw [List.any_eq_false] at h1
            have h2 := h1 S[v] (List.getElem_mem hv')
            rw [List.getD_eq_getElem?_getD, List.getElem?_eq_getElem hv', Option.getD_some] at hv
            rw [hv] at h2
            exact absurd rfl h2
          · exact h)
        have HBW : Hid (b10 < W0.heap.size) := Lib.hid hls.x10.lt
        clear c10 o10 c6 f6 hi hlt q1 hfew
        obtain ⟨n, hn⟩ : ∃ n, l.length = n := ⟨_, rfl⟩
        have HN := Lib.hid hn
        have hl5 : n ≤ 512 := by rw [← hn]; exact hl512
        have hdg2 : DG w2 bg (some ⟨g, 0, none⟩) n (M.rows ps l) arcs := by rw [← hn]; exact hdg
        clear hdg hpos
        rw [hn]
        clear hn
        refine wp_loop_mrg [19, 20, 75, 76, 77, 78, 79, 80, 81, 82, 83, 84, 85, 86, 87, 88, 89, 90, 91] (fun mm f ds W1 => ∃ (v : Nat), f 75 = .int .i64 v ∧ mm = n - v ∧ v ≤ n ∧ LS w3 W1 w3.heap.size b10 cnt D2 ∧ Box W1 w.heap.size #[.int .i64 0] 34 ∧ Hid (∀ v', v' < v → ∀ x, x < n → (Dg.row (M.rows ps l) v').testBit x = true → ¬ (S.getD v' none).getD 0 < (S.getD x none).getD 0) ∧ W0.heap.size ≤ W1.heap.size ∧ Marks W0.heap.size W1.heap.size ds W1) n ⟨0, rfl, rfl, Nat.zero_le _, hls, q6, Lib.hid (fun v' h => absurd h (by omega)), Nat.le_refl _, Marks.none_⟩ ?_
        clear hls q6
        intro c2' T2' hc2 hT2
        rintro mm f ds W1 ⟨v, hf75, rfl, hv, hl1, q1, HLT, hsz, hM⟩
        replace hc2 := hc2.out
        subst hc2
        replace hT2 := hT2.out
        subst hT2
        generalize hF : mrgF _ 0 _ _ = F
        simp only [mrg_hit, mrg_miss, Nat.reduceBEq, Nat.reduceAdd] at hF
        rw [hf75] at hF
        subst hF
        by_cases hlt : v < n
        · have x0 : (0 : Int) ≤ (v : Int) := by omega
          have x1 : (v : Int) < (n : Int) := by omega
          have q0 : decide ((v : Int) < (n : Int)) = true := decide_eq_true x1
          have hrl : v < (M.rows ps l).length := by rw [HRL.out, HN.out]; exact hlt
          obtain ⟨X1, HX1, x19, x80, hbX1, hsX1⟩ := boxes2 W1 #[.int .i64 v] 3 #[.int .i64 v] 3
          have hX1 := HX1.out
          clear hsX1
          have c19 := x19.c1
          have B1 := after_ B3 hl1.bel
          have B1x := after_ B1 hbX1
          have kN := dpNext_ok bg _ n (M.rows ps l) arcs (some ⟨W1.heap.size + 1, 0, none⟩) 1 [v] X1 (hdg2.next (after_ (after_ hb3 hl1.bel) hbX1)) hR (by simpa using hrl) (Sl.of_box x80 rfl) (by simp)
          have hse : (Dg.row (M.rows ps l) v).testBit v = false := M.row_self (by rw [HN.out]; exact hlt)
          rw [nextF_one hse] at kN
          have HRB : Hid (∀ x, x ∈ Bs.els (Dg.row (M.rows ps l) v) 0 ↔ (Dg.row (M.rows ps l) v).testBit x = true) := Lib.hid (fun x => Bs.mem_els (hR.row_fit v))
          have HRF : Hid (∀ x ∈ Bs.els (Dg.row (M.rows ps l) v) 0, x < n) := Lib.hid (fun x hx => by
            have h1 := hR.fit _ _ ((HRB.out x).1 hx)
            rwa [HRL.out, HN.out] at h1)
          have HLATE : Hid (∀ x, x ∈ Bs.els (Dg.row (M.rows ps l) v) 0 → (S.getD v none).getD 0 < (S.getD x none).getD 0 → M.legal ps l (os.map (·.xs)) = 10) := Lib.hid (fun x hx h => M.legal_late HST.out HNI.out (by rw [HN.out]; exact hlt) (by rw [HN.out]; exact HRF.out x hx) ((HRB.out x).1 hx) h)
          have HSTEP : Hid ((∀ x ∈ Bs.els (Dg.row (M.rows ps l) v) 0, ¬ (S.getD v none).getD 0 < (S.getD x none).getD 0) → ∀ v', v' < v + 1 → ∀ x, x < n → (Dg.row (M.rows ps l) v').testBit x = true → ¬ (S.getD v' none).getD 0 < (S.getD x none).getD 0) := Lib.hid (fun h v' hv' x hx hb => by
            by_cases e : v' = v
            · subst e; exact h x ((HRB.out x).2 hb)
            · exact HLT.out v' (by omega) x hx hb)
          clear HRB HLT
          generalize Dg.row (M.rows ps l) v = rw_ at *
          go_wp2_with fail
          clear hX1 c19
          refine kN.mono ?_
          rintro e w5 ⟨rfl, hb5⟩
          clear kN hse
          have hl5' := (hl1.next hbX1).next hb5
          have q5 := (q1.below hbX1).below hb5
          have z19 := x19.below hb5
          have hM5 := (hM.below hbX1).below hb5
          go_wp2_with fail
          refine (bsAll_ok rw_ w5).mono ?_
          rintro e w6 ⟨rfl, hb6, hs6, xb⟩
          have hl6 := hl5'.next hb6
          have q6 := q5.below hb6
          have z19 := z19.below hb6
          have hsz6 : W1.heap.size ≤ w6.heap.size := by have := hbX1.size; have := hb5.size; have := hb6.size; omega
          have hM6 := (hM5.below hb6).more (C' := w6.heap.size) hsz6
          have h19 : W1.heap.size < w5.heap.size := by have := x19.lt; have := hb5.size; omega
          have HW6 : Hid (w3.heap.size ≤ w6.heap.size ∧ w3.heap.size < w6.heap.size ∧ w.heap.size ≤ w6.heap.size) := Lib.hid (by have := HB10.out; have := HBW.out; have := hsz6; have := B3.size; omega)
          clear hl5' q5 hM5 hM
          go_wp2_with fail
          refine wp_range (gf := 54) (lb := #[.pointer (some ⟨w5.heap.size, 0, none⟩)]) rfl (enters_of Tryd.func54 (by kernel_rfl) rfl) (bsAll_seq w5.heap.size rw_) (fun _ => rfl)
            (fun pre W => LS w3 W w3.heap.size b10 cnt D2 ∧ Box W W1.heap.size #[.int .i64 v] 3 ∧ Box W w5.heap.size (bsc rw_) 80 ∧ Box W w.heap.size #[.int .i64 0] 34 ∧ Marks W0.heap.size w6.heap.size ds W ∧ Hid (∀ x ∈ pre, ¬ (S.getD v none).getD 0 < (S.getD x none).getD 0)) (fun c pre W => c = .ret ∧ Below w.heap.size w W ∧ Box W w.heap.size #[.int .i64 10] 34 ∧ Marks W0.heap.size w6.heap.size ds W ∧ Hid (M.legal ps l (os.map (·.xs)) = 10))
            ?hI ?hJ ?hK ⟨hl6, z19, xb, q6, hM6, Lib.hid (fun x h => by cases h)⟩ ?round ?done ?stop
          case hI => exact fun pre W W' row ⟨h1, h2, h3, h4, h5, h6⟩ hg hr => ⟨h1.own' HW6.out.1 HW6.out.2.1 hg hr, h2.own hg hr, h3.own hg hr, h4.own hg hr, h5.own (Nat.le_refl _) hg hr, h6⟩
          case hJ => exact fun c pre W W' row ⟨h1, h2, h3, h4, h5⟩ hg hr => ⟨h1, below_own h2 HW6.out.2.2 h2.size hg hr, h3.own hg hr, h4.own (Nat.le_refl _) hg hr, h5⟩
          case hK => exact fun pre W ⟨h1, h2, h3, h4⟩ => ⟨h3, ht.kept (after_ B3 h1.bel)⟩
          case round =>
            clear z19 xb q6 hl6 hM6
            intro r' pre x post W hL hl' hd hi'
            gi_wp2
            refine ⟨hl', hd, hi', fun _ => True, fun _ _ _ _ _ _ _ => trivial, trivial, ?_⟩
            clear hl' hd hi'
            rintro r'' W2 hl' hd ⟨h1, h2, h3, h4, h5, h6⟩ -
            have hxn := HRF.out x (by rw [hL]; simp)
            have HXL := Lib.hid (HLATE.out x (by rw [hL]; simp))
            clear hL
            have c10 := h1.x10.c1
            have c19 := h2.c1
            have c6 := h4.c1
            have f6 := h4.frozen 0
            obtain ⟨cv, hrv, hav, -⟩ := h1.own.lookup_int (Maps.int_keyed Tryd.underlying3) Tryd.underlying56 Tryd.underlying3 (zeroIntG _) (Maps.keyOf_int_mk (P := Tryd.prog) Tryd.underlying3 (wf64 ⟨by omega, by omega⟩) : keyOf Tryd.prog 3 (.int .i64 (v : Int)) = some (.int .i64 (v : Int)))
            obtain ⟨cx, hrx, hax, -⟩ := h1.own.lookup_int (Maps.int_keyed Tryd.underlying3) Tryd.underlying56 Tryd.underlying3 (zeroIntG _) (Maps.keyOf_int_mk (P := Tryd.prog) Tryd.underlying3 (wf64 ⟨by omega, by omega⟩) : keyOf Tryd.prog 3 (.int .i64 (x : Int)) = some (.int .i64 (x : Int)))
            have hev : cv = ((S.getD v none).getD 0 : Nat) := by
              rw [(HSD.out.get v).2] at hav
              injection hav with hav
              injection hav with _ hav
              exact hav.symm
            have hex : cx = ((S.getD x none).getD 0 : Nat) := by
              rw [(HSD.out.get x).2] at hax
              injection hax with hax
              injection hax with _ hax
              exact hax.symm
            clear hav hax
            obtain ⟨a, ha⟩ : ∃ a, (S.getD v none).getD 0 = a := ⟨_, rfl⟩
            obtain ⟨b, hb⟩ : ∃ b, (S.getD x none).getD 0 = b := ⟨_, rfl⟩
            rw [ha, hb] at HXL
            rw [ha] at h6 hev
            rw [hb] at hex
            have HX6 : Hid (¬ a < b → ∀ y ∈ pre ++ [x], ¬ a < (S.getD y none).getD 0) := Lib.hid (fun h y hy => by
              rcases List.mem_append.1 hy with h1 | h1
              · exact h6.out y h1
              · rw [List.mem_singleton.1 h1, hb]; exact h)
            have HA := Lib.hid ha
            clear ha hb
            subst hev hex
            by_cases hab : a < b
            · have q1 : decide ((a : Int) < (b : Int)) = true := decide_eq_true (by omega)
              gi_wp2_with fail
              exact ⟨hl'.set_other (hl'.ne_box rfl h4) _, hd.set_other (hd.ne_box rfl h4) _, rfl, (after_ B3 h1.bel).setCell (p := ⟨w.heap.size, 0, none⟩) (Nat.le_refl _) _, h4.set 0 _, h5.set_other h4 _, Lib.hid (HXL.out hab)⟩
            · have q1 : decide ((a : Int) < (b : Int)) = false := decide_eq_false (by omega)
              gi_wp2_with fail
              exact ⟨hl', hd, h1, h2, h3, h4, h5, Lib.hid (by rw [HA.out]; exact HX6.out hab)⟩
          case done =>
            rintro W ⟨h1, h2, h3, h4, h5, h6⟩ hD
            have hMf := h5.cons (C := w6.heap.size) (D := w6.heap.size) (by omega) (Nat.le_refl _) hD
            have hDl := hD.lt
            have HN2 := Lib.hid (HSTEP.out h6.out)
            have hMg := hMf.more (C' := W.heap.size) (by omega)
            clear h2 h3 hD z19 xb hl6 hM6 hs6 hMf h5 h6 q6
            go_wp2_with fail
            exact ⟨_, rfl, rfl, n - (v + 1), by omega, v + 1, rfl, rfl, hlt, h1, h4, HN2, by omega, hMg⟩
          case stop =>
            rintro c pre W ⟨rfl, h2, h3, h5, h6⟩ hD
            have hMf := h5.cons (C := w6.heap.size) (D := w6.heap.size) (by omega) (Nat.le_refl _) hD
            go_wp2_with fail
            refine leaves_marks (B := W0.heap.size) _ _ hMf (fun W' hs => ?_)
            have z0 := (hs.box h3).c1
            refine ⟨.int .i64 10, by simp [results, Tryd.results23, go_sem, z0], ⟨0, HER.out, .inr ⟨rfl, ?_⟩⟩, h2.trans (hs.below.mono B0.size)⟩
            rw [h6.out]
        · obtain rfl : v = n := by omega
          have q0 : decide ((v : Int) < (v : Int)) = false := decide_eq_false (by omega)
          have c6 := q1.c1
          have f6 := q1.frozen 0
          have HE : Hid (M.legal ps l (os.map (·.xs)) = 0) := Lib.hid (M.legal_fine HST.out HNI.out (fun a b ha hb h => HLT.out a (by rw [← HN.out]; exact ha) b (by rw [← HN.out]; exact hb) h))
          clear HLT
          have B1 := after_ B3 hl1.bel
          go_wp2_with fail
          have z := q1.set 0 (.int .i64 0)
          have hBs := B1.setCell (p := ⟨w.heap.size, 0, none⟩) (Nat.le_refl _) (.int .i64 0)
          have hMs := hM.set_other (i := 0) q1 (.int .i64 0)
          refine leaves_marks (B := W0.heap.size) _ _ hMs (fun W' hs => ?_)
          have z0 := (hs.box z).c1
          refine ⟨.int .i64 0, by simp [results, Tryd.results23, go_sem, z0], ⟨0, HER.out, .inr ⟨rfl, ?_⟩⟩, hBs.trans (hs.below.mono B0.size)⟩
          rw [HE.out]
end Go.Proofs.YtceobfigfmnacaaDoor
end
