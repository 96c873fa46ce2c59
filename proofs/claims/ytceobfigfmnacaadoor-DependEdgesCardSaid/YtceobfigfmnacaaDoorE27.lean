/- A bundle of texts: LdEd. -/
import Derived.Test.YtceobfigfmnacaaDoorE26
section
namespace Go.Proofs.YtceobfigfmnacaaDoor
open Go Go.RowKit
set_option maxRecDepth 100000
theorem mvInfo : (Tryd.prog.info? 26).map (fun i => (i.zero, i.size, i.bytes)) = some (some (.agg #[.int .i64 0, .int .i64 0, .int .i64 0, .int .i64 0, .int .i64 0, .int .i64 0]), 6, 48) := by kernel_rfl
set_option maxHeartbeats 64000000 in
theorem dependEdges_walk (PA : Option Addr) (pc : Nat) (ps : List P5) (LA : Option Addr) (lc : Nat) (l : List Mv) (many : Int) (w : World) (ht : Tab64 w) (hP : Sl 5 p5cell w w.heap.size PA ps) (hL : Sl 6 mvcell w w.heap.size LA l) (hi : M.Ints ps l) :
    Calls Tryd.prog 8 #[.slice PA ps.length pc, .slice LA l.length lc, .int .i64 many] w fun e w' => e = .returned (.bool true) ∧ Below w.heap.size w w' := by
  obtain ⟨im, him, hzm0, hzm1, hzm2⟩ := info_parts mvInfo
  have Him := Lib.hid him; have Hzm0 := Lib.hid hzm0; have Hzm1 := Lib.hid hzm1; have Hzm2 := Lib.hid hzm2
  clear him hzm0 hzm1 hzm2
  obtain ⟨V, HW, x5, x6, hB, hsV⟩ := boxes2 w #[.int .i64 many] 3 #[.bool false] 4
  have lw : LW w V PA LA ps l := ⟨hB, ht, hP, hL, hi⟩
  have HSV := Lib.hid hsV
  clear ht hP hL hi hsV hB
  obtain ⟨f1, hf1⟩ : ∃ f, decide (ps.length ≤ 40) = f := ⟨_, rfl⟩
  obtain ⟨f2, hf2⟩ : ∃ f, decide (l.length ≤ 9) = f := ⟨_, rfl⟩
  have kF := few_any PA pc ps.length LA lc l.length V
  rw [hf1, hf2] at kF
  have hV := HW.out
  refine calls_marks Tryd.func8 rfl ?_
  simp only [Tryd.ntmps8, List.size_toArray, List.length_cons, List.length_nil, Nat.reduceAdd, Nat.reduceSub, Array.replicate_succ, Array.replicate_zero, List.push_toArray, List.append_toArray, List.nil_append, List.cons_append]
  go_wp2_with fail
  clear hV
  refine kF.mono ?_
  rintro e w2 ⟨rfl, rfl⟩
  clear kF
  by_cases hfw : (f1 && f2) = true
  case neg =>
    rw [Bool.not_eq_true] at hfw
    rw [hfw]
    go_wp2_with fail
    refine lw.known.mono ?_
    rintro e x99 ⟨rfl, hb9⟩
    have k6 := x6.below hb9
    have kc := k6.c1
    have kf := k6.frozen 0
    go_wp2_with fail
    have kz := k6.set 0 (.bool true)
    have kb := (after_ lw.bel hb9).setCell (p := ⟨w.heap.size + 1, 0, none⟩) (by dsimp only; omega) (.bool true)
    refine leaves_marks (B := w.heap.size) (C := w.heap.size) _ _ Marks.none_ (fun W' hs => ?_)
    have kz0 := (hs.box kz).c1
    exact ⟨.bool true, by simp [results, Tryd.results8, go_sem, kz0], rfl, kb.trans (hs.below.mono (Nat.le_refl _))⟩
  case pos =>
    rw [hfw]
    rw [Bool.and_eq_true] at hfw
    obtain ⟨rfl, rfl⟩ := hfw
    have hp := of_decide_eq_true hf1
    have hl := of_decide_eq_true hf2
    clear hf1 hf2
    obtain ⟨V2, HV2, x7, hbV2, hsV2⟩ := boxes1 V #[.slice none 0 0] 58
    have hde : DeS w V2 w.heap.size (w.heap.size + 1) V.heap.size V2.heap.size many none 0 [] := ⟨after_ lw.bel hbV2, x5.below hbV2, x6.below hbV2, x7, own_nil _ _ _ _ _⟩
    have hV2 := HV2.out
    have HS : Hid (w.heap.size ≤ V.heap.size ∧ w.heap.size < w.heap.size + 1 ∧ w.heap.size + 1 < V.heap.size ∧ V.heap.size < V2.heap.size) := Lib.hid (by have := HSV.out; omega)
    obtain ⟨er, her⟩ : ∃ er : Int, (M.mvsOk l ∧ er = 0) ∨ (¬ M.mvsOk l ∧ er = 2) := by
      by_cases hok : M.mvsOk l
      · exact ⟨0, .inl ⟨hok, rfl⟩⟩
      · exact ⟨2, .inr ⟨hok, rfl⟩⟩
    have HER := Lib.hid her
    have KE : Hid (∀ W, LW w W PA LA ps l → Calls Tryd.prog 27 #[.slice PA ps.length pc, .slice LA l.length lc] W fun e w' => e = .returned (.int .i64 er) ∧ Below W.heap.size W w') := Lib.hid (fun W h => (rError_ok PA pc ps.length ps LA lc l W rfl h.moves (by omega)).mono (by
      rintro e w' ⟨⟨er', rfl, he⟩, hb⟩
      refine ⟨?_, hb⟩
      rcases her with ⟨h1, rfl⟩ | ⟨h1, rfl⟩
      · rw [M.err_ok he (by omega) h1]
      · rw [M.err_no he h1]))
    have KW := Lib.hid (fun (W : World) (h : LW w W PA LA ps l) (i k : Nat) (h1 : i < l.length) (h2 : k < l.length) => rWaits_in PA pc ps.length ps l W rfl h.pairs (by omega) h.ints h1 h2 W (Below.refl _ _))
    replace lw := lw.next hbV2
    clear her hsV2 hbV2 x5 x6 x7
    go_wp2_with fail
    clear hV2
    refine wp_loop_mrg [8, 9, 22, 23, 24, 25, 26, 27, 28, 29, 30, 31, 32, 33, 34, 35, 36, 37, 38, 39, 40, 41, 42, 43, 44, 45, 46, 47, 48, 49, 50, 51, 52, 53, 54, 55, 56, 57, 58, 59, 60, 61, 62, 63] (fun mm f ds W1 => ds = [] ∧ ∃ (i : Nat) (A : Option Addr) (c : Nat), f 8 = .int .i64 i ∧ mm = l.length - i ∧ i ≤ l.length ∧ DeS w W1 w.heap.size (w.heap.size + 1) V.heap.size V2.heap.size many A c (M.edgT ps l i) ∧ V2.heap.size ≤ W1.heap.size ∧ Hid (er ≠ 0 → i = 0)) l.length ⟨rfl, 0, none, 0, rfl, rfl, Nat.zero_le _, hde, Nat.le_refl _, Lib.hid (fun _ => rfl)⟩ ?_
    have lw0 : ∀ W, Below w.heap.size w W → LW w W PA LA ps l := fun W hb => ⟨hb, lw.tab0, lw.p0, lw.l0, lw.ints⟩
    have LW0 := Lib.hid lw0
    clear hde lw lw0
    intro c1' T1' hc2 hT2
    rintro mm f ds W1 ⟨rfl, i, A, c, hf8, rfl, hi, hde, hbs, HEI⟩
    replace hc2 := hc2.out
    subst hc2
    replace hT2 := hT2.out
    subst hT2
    generalize hF : mrgF _ 0 _ _ = F
    simp only [mrg_hit, mrg_miss, mrg_end, Nat.reduceBEq, Nat.reduceAdd] at hF
    rw [hf8] at hF
    subst hF
    have lw := LW0.out W1 hde.bel
    by_cases hlt : i < l.length
    · have x0i : (0 : Int) ≤ (i : Int) := by omega
      have x1i : (i : Int) < (l.length : Int) := by omega
      have q0i : decide ((i : Int) < (l.length : Int)) = true := decide_eq_true x1i
      go_wp2_with fail
      refine (KE.out W1 lw).mono ?_
      rintro e w3 ⟨rfl, hb3⟩
      replace lw := lw.next hb3
      replace hde := hde.next hb3
      have hbs3 : V2.heap.size ≤ w3.heap.size := Nat.le_trans hbs hb3.size
      clear hb3 hbs
      by_cases he0 : er = 0
      · have q1 : (er == 0) = true := by simpa using he0
        have hdw : DeS w w3 w.heap.size (w.heap.size + 1) V.heap.size V2.heap.size many A c (M.edgW ps l i 0) := by rw [M.edgW_zero]; exact hde
        have HE0 := Lib.hid he0
        clear hde he0
        go_wp2_with fail
        refine wp_loop_mrg [9, 34, 35, 36, 37, 38, 39, 40, 41, 42, 43, 44, 45, 46, 47, 48, 49, 50, 51, 52, 53, 54, 55, 56, 57, 58, 59, 60, 61, 62, 63] (fun mm f ds W2 => ds = [] ∧ ∃ (k : Nat) (A : Option Addr) (c : Nat), f 9 = .int .i64 k ∧ mm = l.length - k ∧ k ≤ l.length ∧ DeS w W2 w.heap.size (w.heap.size + 1) V.heap.size V2.heap.size many A c (M.edgW ps l i k) ∧ V2.heap.size ≤ W2.heap.size) l.length ⟨rfl, 0, A, c, rfl, rfl, Nat.zero_le _, hdw, hbs3⟩ ?_
        clear hdw hbs3
        intro c2' T2' hc2 hT2
        rintro mm f ds W2 ⟨rfl, k, A2, c2, hf9, rfl, hk, hd2, hbs2⟩
        replace hc2 := hc2.out
        subst hc2
        replace hT2 := hT2.out
        subst hT2
        generalize hF : mrgF _ 0 _ _ = F
        simp only [mrg_hit, mrg_miss, mrg_end, Nat.reduceBEq, Nat.reduceAdd] at hF
        rw [hf9] at hF
        subst hF
        replace lw := LW0.out W2 hd2.bel
        by_cases hltk : k < l.length
        · have x0k : (0 : Int) ≤ (k : Int) := by omega
          have x1k : (k : Int) < (l.length : Int) := by omega
          have q0k : decide ((k : Int) < (l.length : Int)) = true := decide_eq_true x1k
          obtain ⟨la, hla, hlb, a0, a1, a2, a3, a4, a5⟩ := lw.moves.mv6 hlt
          obtain ⟨la', hla', hlb', b0, b1, b2, b3, b4, b5⟩ := lw.moves.mv6 hltk
          obtain rfl : la = la' := by rw [hla] at hla'; exact Option.some.inj hla'
          have kW := KW.out W2 lw i k hlt hltk
          have KM := Lib.hid (fun (u : World) (hu : Below W2.heap.size W2 u) => KW.out u (lw.next hu) i k hlt hltk)
          have HNO := Lib.hid (M.edgW_no (ps := ps) (l := l) (i := i) (k := k))
          have HYE := Lib.hid (M.edgW_yes (ps := ps) (l := l) (i := i) (k := k))
          have hel := M.edgW_len ps l i k
          rw [← M.stv_at hlt, ← M.stv_at hltk] at HYE
          have HCL : Hid (∀ u, Below W2.heap.size W2 u → u.cell? (la.add (i * 6)) = some (.int .i64 l[i].st) ∧ u.cell? (la.add (k * 6)) = some (.int .i64 l[k].st)) := Lib.hid (fun u hu => ⟨(hu.cell (p := la.add (i * 6)) hlb).trans a0, (hu.cell (p := la.add (k * 6)) hlb').trans b0⟩)
          generalize M.dep0 (M.rows ps l) i k = r at *
          generalize l[i] = mi at *
          generalize l[k] = mk at *
          have HLA := Lib.hid hla
          clear hla'
          subst hla
          have k1 : Hid (∀ u : Kept W2.heap.size W2, Calls Tryd.prog 13 #[.slice PA ps.length pc, mvv mi, mvv mk] u.val fun e w' => e = .returned (.bool r) ∧ Below u.val.heap.size u.val w') := Lib.hid (fun u => KM.out u.val u.h)
          clear kW
          go_wp2_with fail
          refine wp_region_kept W2.heap.size W2 (by kernel_rfl) (by kernel_rfl) (Below.refl _ _) ?_
          repeat (go_big_quiet_step ((go_at_call 13; with_reducible exact Kept.calls (Nat.le_refl _) (k1.out _))))
          refine wpQuiet_nil ?_
          rintro w5 ⟨⟨w5x, hb5⟩, hw5⟩
          dsimp only at hw5
          subst hw5
          clear k1 a0 a1 a2 a3 a4 a5 b0 b1 b2 b3 b4 b5
          replace hd2 := hd2.next hb5
          replace hbs2 := Nat.le_trans hbs2 hb5.size
          obtain ⟨a0, b0⟩ := HCL.out _ hb5
          cases r with
          | false =>
            have HE := Lib.hid (HNO.out rfl)
            clear HNO HYE a0 b0
            go_wp2_with fail
            first
              | exact ⟨_, rfl, rfl, l.length - (k + 1), by omega, by trivial, k + 1, A2, c2, rfl, rfl, hltk, by rw [HE.out]; exact hd2, hbs2⟩
              | exact ⟨rfl, l.length - (k + 1), by omega, k + 1, A2, c2, rfl, rfl, hltk, by rw [HE.out]; exact hd2, hbs2⟩
          | true =>
            have HE := Lib.hid (HYE.out rfl)
            clear HNO HYE
            go_wp2_with fail
            refine edges_reg11 hd2 HS.out hbs2 (by omega) x0i x1i x0k x1k a0 b0 (by kernel_rfl) ?_
            rintro z50 z51 z52 z53 z54 z55 z56 z57 z58 z59 z60 z61 z62 z63 Y A3 c3 hd3 hbs4
            clear a0 b0
            go_wp2_with fail
            first
              | exact ⟨_, rfl, rfl, l.length - (k + 1), by omega, by trivial, k + 1, A3, c3, rfl, rfl, hltk, by rw [HE.out]; exact hd3, hbs4⟩
              | exact ⟨rfl, l.length - (k + 1), by omega, k + 1, A3, c3, rfl, rfl, hltk, by rw [HE.out]; exact hd3, hbs4⟩
        · obtain rfl : k = l.length := by omega
          have q0 : decide ((l.length : Int) < (l.length : Int)) = false := decide_eq_false (by omega)
          rw [M.edgW_all (by omega)] at hd2
          have HEI2 : Hid (er ≠ 0 → i + 1 = 0) := Lib.hid (fun h => absurd HE0.out h)
          go_wp2_with fail
          first
            | exact ⟨_, rfl, rfl, l.length - (i + 1), by omega, by trivial, i + 1, A2, c2, rfl, rfl, hlt, hd2, hbs2, HEI2⟩
            | exact ⟨rfl, l.length - (i + 1), by omega, i + 1, A2, c2, rfl, rfl, hlt, hd2, hbs2, HEI2⟩
      · have q1 : (er == 0) = false := by simpa using he0
        have HWN : Hid ((er ≠ 0 → M.edgT ps l i = []) ∧ (er = 0 → M.edgT ps l i = M.edg ps l)) := Lib.hid ⟨fun h => by rw [HEI.out h]; rfl, fun h => absurd h he0⟩
        have hbs := hbs3
        have hel0 : (M.edgT ps l i).length ≤ 1000000 := by have := M.edgT_len ps l i; omega
        clear hbs3 HEI he0
        generalize M.edgT ps l i = es at *
        have HBS := Lib.hid hbs
        have HEL : Hid (es.length ≤ 1000000) := Lib.hid hel0
        have kEd : Hid (∀ (U : World) (MA : Option Addr) (mc : Nat), LW w U PA LA ps l → Sl 6 mvcell U U.heap.size MA l → Calls Tryd.prog 28 #[.slice PA ps.length pc, .slice MA l.length mc] U fun e w' => (∃ (b : Nat) (A2 : Option Addr) (c2 : Nat), e = .returned (.func (.func 42) #[] #[.pointer (some ⟨b, 0, none⟩)]) ∧ EsB U.heap.size w' b A2 c2 es) ∧ Below U.heap.size U w') := Lib.hid (fun U MA mc hU hS => (edges_ok PA pc ps.length ps MA mc l U hU.tab rfl hU.pairs hS (by omega) hU.iw).mono (by
          rintro e w' ⟨⟨b, A2, c2, es', er', rfl, h1, h2, h3, h4, h5, h6⟩, hb⟩
          have h7 := M.err_few h4 hp
          have h8 : er' = er := by
            rcases h7 with ⟨y1, y2⟩ | ⟨y1, y2⟩ <;> rcases HER.out with ⟨z1, z2⟩ | ⟨z1, z2⟩ <;> first | omega | exact absurd y1 z1 | exact absurd z1 y1
          subst h8
          have h9 : es' = es := by
            by_cases h0 : er' = 0
            · rw [h6 h0, HWN.out.2 h0]
            · rw [h5 h0, HWN.out.1 h0]
          subst h9
          exact ⟨⟨b, A2, c2, rfl, h1, h2, h3⟩, hb⟩))
        have hmoves := lw.moves
        clear HWN hbs hel0
        go_wp2_with (at_builtin; refine wpList_append_sl _ (w0 := w3) (cell := mvcell) rfl _ _ _ rfl w3.heap.size w3.heap.size 26 im _ 48 Tryd.underlying31 Him.out Hzm0.out Hzm1.out Hzm2.out rfl (by decide) (.slice none 0 0) 0 [] rfl (own_nil _ _ _ _ _) _ LA lc l rfl hmoves (fun y j => mv_one y j) (by unfold maxLen; omega) (by omega) (Nat.le_refl _) (Nat.le_refl _) (Below.refl _ _) ?_; intro v' w4 hown' hb4 _)
        obtain ⟨MA, mc, hv, hSM⟩ := own_slice (by decide) hown'
        rw [Nat.zero_add, List.nil_append] at hown'
        rw [List.nil_append] at hv hSM
        subst hv
        replace lw := lw.next hb4
        replace hde := hde.next hb4
        have HB4 := Lib.hid hb4.size
        clear hb4 hmoves
        have kE := kEd.out w4 MA mc lw hSM
        clear hSM
        go_wp2_with fail
        refine kE.mono ?_
        rintro e w5 ⟨⟨b, A2, c2, rfl, hE⟩, hb5⟩
        clear kE
        replace lw := lw.next hb5
        replace hde := hde.next hb5
        have hown5 := own_below hown' hb5
        have HB5 := Lib.hid hb5.size
        have hLO : Hid (w3.heap.size ≤ w4.heap.size ∧ w4.heap.size ≤ w5.heap.size ∧ V2.heap.size ≤ w3.heap.size) := Lib.hid ⟨HB4.out, HB5.out, HBS.out⟩
        have hnil := edges_not_nil w5 (.func 42) #[] #[.pointer (some ⟨b, 0, none⟩)]
        have HLT : Hid ((Value.slice MA l.length mc).ownBlock = none ∨ ∃ g, (Value.slice MA l.length mc).ownBlock = some g ∧ w3.heap.size ≤ g ∧ g < w4.heap.size) := Lib.hid (by
          cases hv : (Value.slice MA l.length mc).ownBlock with
          | none => exact .inl rfl
          | some g => exact .inr ⟨g, rfl, hown'.lt g hv⟩)
        clear hown' hb5 HB4 HB5 HBS
        go_wp2_with fail
        refine wp_loop_mrg [12, 71, 72, 73, 74, 75, 76, 77, 78, 79, 80, 81, 82, 83, 84] (fun mm f ds W3 => ds = [] ∧ ∃ (i : Nat) (ms : List Mv), f 12 = .int .i64 i ∧ mm = l.length - i ∧ i ≤ l.length ∧ ms.length = l.length ∧ W3.ownsRow w3.heap.size 26 6 (.slice MA l.length mc) l.length (flat 6 mvcell ms) ∧ DeS w W3 w.heap.size (w.heap.size + 1) V.heap.size V2.heap.size many A c es ∧ EsB w4.heap.size W3 b A2 c2 es ∧ w5.heap.size ≤ W3.heap.size) l.length ⟨rfl, 0, l, rfl, rfl, Nat.zero_le _, rfl, hown5, hde, hE, Nat.le_refl _⟩ ?_
        clear hown5 hde hE lw
        intro c3' T3' hc2 hT2
        rintro mm f ds W3 ⟨rfl, i3, ms, hf12, rfl, hi3, hml, hown3, hd3, hE3, hbs3⟩
        replace hc2 := hc2.out
        subst hc2
        replace hT2 := hT2.out
        subst hT2
        generalize hF : mrgF _ 0 _ _ = F
        simp only [mrg_hit, mrg_miss, mrg_end, Nat.reduceBEq, Nat.reduceAdd] at hF
        rw [hf12] at hF
        subst hF
        by_cases hlt3 : i3 < l.length
        · have x0z : (0 : Int) ≤ (i3 : Int) := by omega
          have x1z : (i3 : Int) < (l.length : Int) := by omega
          have q0z : decide ((i3 : Int) < (l.length : Int)) = true := decide_eq_true x1z
          have HG : Hid (∃ g, MA = some ⟨g, 0, none⟩) := Lib.hid (by
            rcases hown3.2 with ⟨_, h0⟩ | ⟨g, cap, cur, h, _⟩
            · omega
            · injection h with h1
              exact ⟨g, h1⟩)
          obtain ⟨g, rfl⟩ := HG.out
          have hg : w4.heap.size > g ∧ V2.heap.size ≤ g := by
            rcases HLT.out with h | ⟨g', h, h1, h2⟩
            · cases h
            · have e : g = g' := Option.some.inj h
              have := hLO.out
              omega
          have hgs := HS.out
          obtain ⟨k1, f1⟩ := own_at hown3 (k := i3) (j := 1) (by omega) (by decide)
          obtain ⟨k2, f2⟩ := own_at hown3 (k := i3) (j := 2) (by omega) (by decide)
          obtain ⟨ms1, hm1, ho1⟩ := spoil hown3 (k := i3) (by omega) (.inl rfl)
          obtain ⟨ms2, hm2, ho2⟩ := spoil ho1 (k := i3) (by omega) (.inr rfl)
          have hd31 := hd3.far_row (grown_set W3 g (i3 * 6 + 1) (.int .i64 0)) hown3 (by decide) (by omega) (by omega) (by omega) (by omega)
          have hd32 := hd31.far_row (grown_set _ g (i3 * 6 + 2) (.int .i64 0)) ho1 (by decide) (by omega) (by omega) (by omega) (by omega)
          have hE32 := (hE3.far (grown_set W3 g (i3 * 6 + 1) (.int .i64 0)) hg.1).far (grown_set _ g (i3 * 6 + 2) (.int .i64 0)) hg.1
          have hml2 : ms2.length = l.length := by omega
          have HBS3 : w5.heap.size ≤ ((W3.setCell ⟨g, i3 * 6 + 1, none⟩ (.int .i64 0)).setCell ⟨g, i3 * 6 + 2, none⟩ (.int .i64 0)).heap.size := by rw [World.size_setCell, World.size_setCell]; exact hbs3
          clear hown3 ho1 hd3 hd31 hE3 hgs hm1 hm2
          have HO2 := Lib.hid ho2
          have HD2 := Lib.hid hd32
          have HE3 := Lib.hid hE32
          clear ho2 hd32 hE32
          go_wp2_with fail
          first
            | exact ⟨_, rfl, rfl, l.length - (i3 + 1), by omega, by trivial, i3 + 1, ms2, rfl, rfl, hlt3, hml2, HO2.out, HD2.out, HE3.out, HBS3⟩
            | exact ⟨rfl, l.length - (i3 + 1), by omega, i3 + 1, ms2, rfl, rfl, hlt3, hml2, HO2.out, HD2.out, HE3.out, HBS3⟩
        · obtain rfl : i3 = l.length := by omega
          have q0 : decide ((l.length : Int) < (l.length : Int)) = false := decide_eq_false (by omega)
          obtain ⟨X, HX, x13, hbX, hsX⟩ := boxes1 W3 #[.int .i64 0] 3
          have hE4 := (hE3.next hbX).set_box (i := 0) x13 (by decide) (x13.ne_box (hE3.next hbX).x (by decide)) (.int .i64 0)
          have hd4 := (hd3.next hbX).set_box (i := 0) x13 (by decide) (by have := hLO.out; have := HS.out; omega) (by have := hLO.out; have := HS.out; omega) (by have := hLO.out; have := HS.out; omega) (by have := hLO.out; have := HS.out; omega) (.int .i64 0)
          have x13' := x13.set 0 (.int .i64 0)
          have hX := HX.out
          have k13 := x13.c1
          have f13 := x13.frozen 0
          have HSX := Lib.hid hsX
          clear hown3 hd3 hE3 hbX hsX
          go_wp2_with fail
          clear hX k13 f13
          refine wp_loop_mrg [13, 14, 15, 16, 85, 86, 87, 88, 89, 90, 91, 92, 93, 94, 95, 96, 97, 98, 99, 100, 101, 102, 103, 104, 105, 106, 107, 108, 109, 110, 111, 112, 113, 114, 115, 116, 117, 118, 119, 120, 121, 122, 123, 124, 125, 126, 127, 128, 129, 130, 131, 132, 133, 134, 135, 136, 137, 138, 139, 140, 141, 142, 143, 144] (fun mm f ds W4 => ∃ (τ b13 : Nat), f 13 = .pointer (some ⟨b13, 0, none⟩) ∧ mm = 2 - τ ∧ τ ≤ 2 ∧ DeS w W4 w.heap.size (w.heap.size + 1) V.heap.size V2.heap.size many A c es ∧ EsB w4.heap.size W4 b A2 c2 es ∧ Box W4 b13 #[.int .i64 (τ : Nat)] 3 ∧ w5.heap.size ≤ b13 ∧ Marks w5.heap.size W4.heap.size ds W4 ∧ w5.heap.size ≤ W4.heap.size) 2 ⟨0, W3.heap.size, rfl, rfl, by omega, hd4, hE4, x13', hbs3, Marks.none_, by rw [World.size_setCell, HSX.out]; omega⟩ ?_
          clear hd4 hE4 x13 x13'
          intro c4' T4' hc2 hT2
          rintro mm f ds W4 ⟨τ, b13, hf13, rfl, hτ, hd4, hE4, x13, hb13, hM, hbs4⟩
          replace hc2 := hc2.out
          subst hc2
          replace hT2 := hT2.out
          subst hT2
          generalize hF : mrgF _ 0 _ _ = F
          simp only [mrg_hit, mrg_miss, mrg_end, Nat.reduceBEq, Nat.reduceAdd] at hF
          rw [hf13] at hF
          subst hF
          have lw := LW0.out W4 hd4.bel
          by_cases hlt4 : τ < 2
          · have q0 : decide ((τ : Int) < 2) = true := decide_eq_true (by omega)
            obtain ⟨X2, HX2, x14, hbX2, hsX2⟩ := boxes1 W4 #[.int .i64 0] 3
            obtain ⟨Y, hY⟩ : ∃ Y, X2.setCell ⟨W4.heap.size, 0, none⟩ (.int .i64 0) = Y := ⟨_, rfl⟩
            have hsY : Y.heap.size = W4.heap.size + 1 := by rw [← hY, World.size_setCell, hsX2]
            have hlo : Hid (w.heap.size ≤ W4.heap.size ∧ w.heap.size ≠ W4.heap.size ∧ w.heap.size + 1 ≠ W4.heap.size ∧ V.heap.size ≠ W4.heap.size ∧ V2.heap.size ≤ w5.heap.size ∧ b13 < W4.heap.size) := Lib.hid (by have := hLO.out; have := HS.out; have := x13.lt; omega)
            have hR0 : RgS w w.heap.size (w.heap.size + 1) V.heap.size V2.heap.size many A c es w4.heap.size b A2 c2 b13 W4.heap.size τ w5.heap.size Y.heap.size ds 0 Y := by
              rw [← hY]
              exact ⟨(hd4.next hbX2).set_box (i := 0) x14 (by decide) hlo.out.1 hlo.out.2.1 hlo.out.2.2.1 hlo.out.2.2.2.1 _, (hE4.next hbX2).set_box (i := 0) x14 (by decide) (x14.ne_box (hE4.next hbX2).x (by decide)) _, (x13.below hbX2).set_other (by dsimp only; have := hlo.out; omega) _, x14.set 0 _, ((hM.below hbX2).set_other x14 _).more (by rw [World.size_setCell, hsX2]; omega)⟩
            have k13 := x13.c1
            have k14 := x14.c1
            have f14 := x14.frozen 0
            have hX2 := HX2.out
            have HSY := Lib.hid hsY
            clear hd4 hE4 x13 hbX2 hsX2 hM x14 hsY
            go_wp2_with fail
            clear hX2 k13 k14 f14 hY
            refine wp_range (gf := 42) (lb := #[.pointer (some ⟨b, 0, none⟩)]) rfl (enters_of Tryd.func42 (by kernel_rfl) rfl) (edges_seq b c2 A2 es HEL.out) (fun _ => rfl)
              (fun pre W => RgS w w.heap.size (w.heap.size + 1) V.heap.size V2.heap.size many A c es w4.heap.size b A2 c2 b13 W4.heap.size τ w5.heap.size Y.heap.size ds pre.length W ∧ Hid (τ = 0 → pre.length = 0 ∨ (pre.length : Int) < many))
              (fun c' pre W => c' = .exit 8 ∧ τ = 0 ∧ Hid ((pre.length : Int) = min (es.length : Int) (max 1 many)) ∧ RgS w w.heap.size (w.heap.size + 1) V.heap.size V2.heap.size many A c es w4.heap.size b A2 c2 b13 W4.heap.size τ w5.heap.size Y.heap.size ds pre.length W)
              ?hI ?hIx ?hK ⟨hR0, Lib.hid (fun _ => .inl rfl)⟩ ?round ?done ?stop
            case hI => exact fun pre W W' row ⟨h1, h2⟩ hg hr => ⟨h1.own' (by have := hlo.out; have := HSY.out; omega) (Nat.le_refl _) hg hr, h2⟩
            case hIx => exact fun c' pre W W' row ⟨h1, h2, h3, h4⟩ hg hr => ⟨h1, h2, h3, h4.own' (by have := hlo.out; have := HSY.out; omega) (Nat.le_refl _) hg hr⟩
            case hK => exact fun pre W ⟨h1, _⟩ => ⟨h1.eb.x, h1.eb.sl⟩
            case round =>
              clear hR0
              intro r' pre x post W hL hl' hd hi'
              gi_wp2
              refine ⟨hl', hd, hi', fun _ => True, fun _ _ _ _ _ _ _ => trivial, trivial, ?_⟩
              clear hl' hd hi'
              rintro r'' U hl' hd ⟨hR, hkm⟩ -
              have hk : pre.length < es.length := by rw [hL]; simp
              have hx : es[pre.length] = x := by simp [hL]
              obtain ⟨ad, hA, hab, a0, a1⟩ := hR.de.sl.e2 hk
              rw [hx] at a0 a1
              have HPL : Hid ((pre ++ [x]).length = pre.length + 1) := Lib.hid (by simp)
              simp only [HPL.out]
              clear hL hx HPL
              have hA' := Lib.hid hA
              generalize pre.length = k at *
              have hel := HEL.out
              have y0 : (0 : Int) ≤ (k : Int) := by omega
              have y1 : (k : Int) < (es.length : Int) := by omega
              have q1 : decide ((k : Int) ≥ (es.length : Int)) = false := decide_eq_false (by omega)
              have q2 : decide ((es.length : Int) ≤ (k : Int)) = false := decide_eq_false (by omega)
              have hI := hR.inc hlo.out.1 hlo.out.2.1 hlo.out.2.2.1 hlo.out.2.2.2.1 (by have := hlo.out; omega)
              have D13 := hR.x13.c1
              have D14 := hR.x14.c1
              have D7 := hR.de.x7.c1
              have f14 := hR.x14.frozen 0
              have E13 := hI.x13.c1
              have E14 := hI.x14.c1
              have E5 := hI.de.x5.c1
              have hl8 := hl'.set_other (p := ⟨W4.heap.size, 0, none⟩) (hl'.ne_box rfl hR.x14) (.int .i64 ((k : Int) + 1))
              have hd8 := hd.set_other (p := ⟨W4.heap.size, 0, none⟩) (hd.ne_box rfl hR.x14) (.int .i64 ((k : Int) + 1))
              have HI := Lib.hid (And.intro hl8 (And.intro hd8 hI))
              clear hl' hd hR hI hl8 hd8
              rw [hA] at D7
              by_cases ht0 : τ = 0
              · have qt : ((τ : Int) == 0) = true := by simpa using ht0
                by_cases hm : many ≤ (k : Int) + 1
                · have qm : decide ((k : Int) + 1 ≥ many) = true := decide_eq_true hm
                  have qm' : decide (many ≤ (k : Int) + 1) = true := decide_eq_true hm
                  have hq : Hid (((k + 1 : Nat) : Int) = min (es.length : Int) (max 1 many)) := Lib.hid (took_some (hkm.out ht0) hm hk)
                  gi_wp2_with fail
                  exact ⟨HI.out.1, HI.out.2.1, rfl, ht0, hq, HI.out.2.2⟩
                · have qm : decide ((k : Int) + 1 ≥ many) = false := decide_eq_false hm
                  have qm' : decide (many ≤ (k : Int) + 1) = false := decide_eq_false hm
                  have hkn : Hid (τ = 0 → k + 1 = 0 ∨ ((k + 1 : Nat) : Int) < many) := Lib.hid (fun _ => .inr (by omega))
                  gi_wp2_with fail
                  first
                    | exact ⟨HI.out.1, HI.out.2.1, HI.out.2.2, hkn⟩
                    | (subst hA; subst ht0; exact ⟨HI.out.1, HI.out.2.1, HI.out.2.2, Lib.hid trivial⟩)
                    | (subst hA; subst ht0; exact ⟨HI.out.1, HI.out.2.1, HI.out.2.2, hkn⟩)
              · have qt : ((τ : Int) == 0) = false := by simp; omega
                have hkn : Hid (τ = 0 → k + 1 = 0 ∨ ((k + 1 : Nat) : Int) < many) := Lib.hid (fun h => absurd h ht0)
                gi_wp2_with fail
                exact ⟨HI.out.1, HI.out.2.1, HI.out.2.2, hkn⟩
            case done =>
              rintro W ⟨hR, hkm⟩ hD
              have hq : Hid ((τ = 0 → (es.length : Int) = min (es.length : Int) (max 1 many)) ∧ (τ = 1 → es.length = es.length)) := Lib.hid ⟨fun h => took_all (hkm.out h), fun _ => rfl⟩
              clear hkm
              have hMf := hR.mrk.cons (C := Y.heap.size) (D := Y.heap.size) (by have := HSY.out; omega) (Nat.le_refl _) hD
              have hDl := hD.lt
              have hMg := hMf.more (C' := W.heap.size) (by omega)
              have HWS : Hid (w5.heap.size ≤ W.heap.size) := Lib.hid (by have := HSY.out; omega)
              have D13 := hR.x13.c1
              have D14 := hR.x14.c1
              have D7 := hR.de.x7.c1
              have D5 := hR.de.x5.c1
              obtain ⟨X3, HX3, x3, hbX3, hsX3⟩ := boxes1 W #[.int .i64 0] 3
              have d3 := hR.de.next hbX3
              have e3 := hR.eb.next hbX3
              have m3 := hMg.below hbX3
              have hlw : Hid (w.heap.size ≤ W.heap.size ∧ w.heap.size ≠ W.heap.size ∧ w.heap.size + 1 ≠ W.heap.size ∧ V.heap.size ≠ W.heap.size) := Lib.hid (by have := hlo.out; have := HWS.out; have := HS.out; omega)
              have d4 := d3.set_box (i := 0) x3 (by decide) hlw.out.1 hlw.out.2.1 hlw.out.2.2.1 hlw.out.2.2.2 (.int .i64 (τ : Nat))
              have e4 := e3.set_box (i := 0) x3 (by decide) (x3.ne_box e3.x (by decide)) (.int .i64 (τ : Nat))
              have m4 := m3.set_other (i := 0) x3 (.int .i64 (τ : Nat))
              have x4 := x3.set 0 (.int .i64 (τ : Nat))
              have d5 := d4.set_box (i := 0) x4 (by decide) hlw.out.1 hlw.out.2.1 hlw.out.2.2.1 hlw.out.2.2.2 (.int .i64 ((τ : Int) + 1))
              have e5 := e4.set_box (i := 0) x4 (by decide) (x4.ne_box e4.x (by decide)) (.int .i64 ((τ : Int) + 1))
              have m5 := m4.set_other (i := 0) x4 (.int .i64 ((τ : Int) + 1))
              have x5 := x4.set 0 (.int .i64 ((τ : Int) + 1))
              have m6 := m5.more (C' := X3.heap.size) (by rw [hsX3]; omega)
              have hsz : w5.heap.size ≤ X3.heap.size := by rw [hsX3]; have := HWS.out; omega
              have k3 := x3.c1
              have g3 := x3.frozen 0
              have k4 := x4.c1
              have g4 := x4.frozen 0
              have G5 := Lib.hid d5
              have G6 := Lib.hid e5
              have G7 := Lib.hid m6
              have G8 := Lib.hid x5
              have G9 := Lib.hid hsz
              have hX3 := HX3.out
              clear hMf hDl hMg hR hD d3 e3 m3 d4 e4 m4 x4 d5 e5 m5 x5 m6 hsz x3 hbX3 hsX3 hR0
              by_cases ht0 : τ = 0
              · subst ht0
                have hqq := (hq.out.1 rfl).symm
                go_wp2_with fail
                first
                  | exact ⟨rfl, 1, W.heap.size, rfl, rfl, by omega, G5.out, G6.out, G8.out, HWS.out, G7.out, G9.out⟩
                  | exact ⟨rfl, 1, by omega, 1, W.heap.size, rfl, rfl, by omega, G5.out, G6.out, G8.out, HWS.out, G7.out, G9.out⟩
                  | exact ⟨_, rfl, rfl, 1, by omega, 1, W.heap.size, rfl, rfl, by omega, G5.out, G6.out, G8.out, HWS.out, G7.out, G9.out⟩
                  | show False
              · obtain rfl : τ = 1 := by omega
                have hqq := hq.out.2 rfl
                go_wp2_with fail
                first
                  | exact ⟨rfl, 2, W.heap.size, rfl, rfl, by omega, G5.out, G6.out, G8.out, HWS.out, G7.out, G9.out⟩
                  | exact ⟨rfl, 0, by omega, 2, W.heap.size, rfl, rfl, by omega, G5.out, G6.out, G8.out, HWS.out, G7.out, G9.out⟩
                  | exact ⟨_, rfl, rfl, 0, by omega, 2, W.heap.size, rfl, rfl, by omega, G5.out, G6.out, G8.out, HWS.out, G7.out, G9.out⟩
                  | show False
            case stop =>
              rintro c' pre W ⟨rfl, ht0, hq0, hR⟩ hD
              have hq : Hid ((τ = 0 → (pre.length : Int) = min (es.length : Int) (max 1 many)) ∧ (τ = 1 → pre.length = es.length)) := Lib.hid ⟨fun h => hq0.out, fun h => by omega⟩
              clear hq0 ht0
              generalize pre.length = k at *
              have hMf := hR.mrk.cons (C := Y.heap.size) (D := Y.heap.size) (by have := HSY.out; omega) (Nat.le_refl _) hD
              have hDl := hD.lt
              have hMg := hMf.more (C' := W.heap.size) (by omega)
              have HWS : Hid (w5.heap.size ≤ W.heap.size) := Lib.hid (by have := HSY.out; omega)
              have D13 := hR.x13.c1
              have D14 := hR.x14.c1
              have D7 := hR.de.x7.c1
              have D5 := hR.de.x5.c1
              obtain ⟨X3, HX3, x3, hbX3, hsX3⟩ := boxes1 W #[.int .i64 0] 3
              have d3 := hR.de.next hbX3
              have e3 := hR.eb.next hbX3
              have m3 := hMg.below hbX3
              have hlw : Hid (w.heap.size ≤ W.heap.size ∧ w.heap.size ≠ W.heap.size ∧ w.heap.size + 1 ≠ W.heap.size ∧ V.heap.size ≠ W.heap.size) := Lib.hid (by have := hlo.out; have := HWS.out; have := HS.out; omega)
              have d4 := d3.set_box (i := 0) x3 (by decide) hlw.out.1 hlw.out.2.1 hlw.out.2.2.1 hlw.out.2.2.2 (.int .i64 (τ : Nat))
              have e4 := e3.set_box (i := 0) x3 (by decide) (x3.ne_box e3.x (by decide)) (.int .i64 (τ : Nat))
              have m4 := m3.set_other (i := 0) x3 (.int .i64 (τ : Nat))
              have x4 := x3.set 0 (.int .i64 (τ : Nat))
              have d5 := d4.set_box (i := 0) x4 (by decide) hlw.out.1 hlw.out.2.1 hlw.out.2.2.1 hlw.out.2.2.2 (.int .i64 ((τ : Int) + 1))
              have e5 := e4.set_box (i := 0) x4 (by decide) (x4.ne_box e4.x (by decide)) (.int .i64 ((τ : Int) + 1))
              have m5 := m4.set_other (i := 0) x4 (.int .i64 ((τ : Int) + 1))
              have x5 := x4.set 0 (.int .i64 ((τ : Int) + 1))
              have m6 := m5.more (C' := X3.heap.size) (by rw [hsX3]; omega)
              have hsz : w5.heap.size ≤ X3.heap.size := by rw [hsX3]; have := HWS.out; omega
              have k3 := x3.c1
              have g3 := x3.frozen 0
              have k4 := x4.c1
              have g4 := x4.frozen 0
              have G5 := Lib.hid d5
              have G6 := Lib.hid e5
              have G7 := Lib.hid m6
              have G8 := Lib.hid x5
              have G9 := Lib.hid hsz
              have hX3 := HX3.out
              clear hMf hDl hMg hR hD d3 e3 m3 d4 e4 m4 x4 d5 e5 m5 x5 m6 hsz x3 hbX3 hsX3 hR0
              by_cases ht0 : τ = 0
              · subst ht0
                have hqq := (hq.out.1 rfl).symm
                go_wp2_with fail
                first
                  | exact ⟨rfl, 1, W.heap.size, rfl, rfl, by omega, G5.out, G6.out, G8.out, HWS.out, G7.out, G9.out⟩
                  | exact ⟨rfl, 1, by omega, 1, W.heap.size, rfl, rfl, by omega, G5.out, G6.out, G8.out, HWS.out, G7.out, G9.out⟩
                  | exact ⟨_, rfl, rfl, 1, by omega, 1, W.heap.size, rfl, rfl, by omega, G5.out, G6.out, G8.out, HWS.out, G7.out, G9.out⟩
                  | show False
              · obtain rfl : τ = 1 := by omega
                have hqq := hq.out.2 rfl
                go_wp2_with fail
                first
                  | exact ⟨rfl, 2, W.heap.size, rfl, rfl, by omega, G5.out, G6.out, G8.out, HWS.out, G7.out, G9.out⟩
                  | exact ⟨rfl, 0, by omega, 2, W.heap.size, rfl, rfl, by omega, G5.out, G6.out, G8.out, HWS.out, G7.out, G9.out⟩
                  | exact ⟨_, rfl, rfl, 0, by omega, 2, W.heap.size, rfl, rfl, by omega, G5.out, G6.out, G8.out, HWS.out, G7.out, G9.out⟩
                  | show False
          · obtain rfl : τ = 2 := by omega
            have q0 : decide (((2 : Nat) : Int) < 2) = false := by decide
            replace lw := LW0.out W4 hd4.bel
            have k13 := x13.c1
            have x6 := hd4.x6
            go_wp2_with fail
            refine lw.known.mono ?_
            rintro e x99 ⟨rfl, hb9⟩
            have k6 := x6.below hb9
            have kc := k6.c1
            have kf := k6.frozen 0
            go_wp2_with fail
            have kz := k6.set 0 (.bool true)
            have kb := (after_ lw.bel hb9).setCell (p := ⟨w.heap.size + 1, 0, none⟩) (by dsimp only; omega) (.bool true)
            refine leaves_marks (B := w5.heap.size)  _ _ ((hM.below hb9).set_other k6 (.bool true)) (fun W' hs => ?_)
            have kz0 := (hs.box kz).c1
            exact ⟨.bool true, by simp [results, Tryd.results8, go_sem, kz0], rfl, kb.trans (hs.below.mono (by have := hLO.out; have := HS.out; omega))⟩
    · obtain rfl : i = l.length := by omega
      have q0 : decide ((l.length : Int) < (l.length : Int)) = false := decide_eq_false (by omega)
      have HWN : Hid ((er ≠ 0 → M.edgT ps l l.length = []) ∧ (er = 0 → M.edgT ps l l.length = M.edg ps l)) := Lib.hid ⟨fun h => by rw [HEI.out h]; rfl, fun _ => rfl⟩
      have hel0 : (M.edgT ps l l.length).length ≤ 1000000 := by have := M.edgT_len ps l l.length; omega
      generalize M.edgT ps l l.length = es at *
      clear HEI
      have HBS := Lib.hid hbs
      have HEL : Hid (es.length ≤ 1000000) := Lib.hid hel0
      have kEd : Hid (∀ (U : World) (MA : Option Addr) (mc : Nat), LW w U PA LA ps l → Sl 6 mvcell U U.heap.size MA l → Calls Tryd.prog 28 #[.slice PA ps.length pc, .slice MA l.length mc] U fun e w' => (∃ (b : Nat) (A2 : Option Addr) (c2 : Nat), e = .returned (.func (.func 42) #[] #[.pointer (some ⟨b, 0, none⟩)]) ∧ EsB U.heap.size w' b A2 c2 es) ∧ Below U.heap.size U w') := Lib.hid (fun U MA mc hU hS => (edges_ok PA pc ps.length ps MA mc l U hU.tab rfl hU.pairs hS (by omega) hU.iw).mono (by
        rintro e w' ⟨⟨b, A2, c2, es', er', rfl, h1, h2, h3, h4, h5, h6⟩, hb⟩
        have h7 := M.err_few h4 hp
        have h8 : er' = er := by
          rcases h7 with ⟨y1, y2⟩ | ⟨y1, y2⟩ <;> rcases HER.out with ⟨z1, z2⟩ | ⟨z1, z2⟩ <;> first | omega | exact absurd y1 z1 | exact absurd z1 y1
        subst h8
        have h9 : es' = es := by
          by_cases h0 : er' = 0
          · rw [h6 h0, HWN.out.2 h0]
          · rw [h5 h0, HWN.out.1 h0]
        subst h9
        exact ⟨⟨b, A2, c2, rfl, h1, h2, h3⟩, hb⟩))
      have hmoves := lw.moves
      clear HWN hbs hel0
      go_wp2_with (at_builtin; refine wpList_append_sl _ (w0 := W1) (cell := mvcell) rfl _ _ _ rfl W1.heap.size W1.heap.size 26 im _ 48 Tryd.underlying31 Him.out Hzm0.out Hzm1.out Hzm2.out rfl (by decide) (.slice none 0 0) 0 [] rfl (own_nil _ _ _ _ _) _ LA lc l rfl hmoves (fun y j => mv_one y j) (by unfold maxLen; omega) (by omega) (Nat.le_refl _) (Nat.le_refl _) (Below.refl _ _) ?_; intro v' w4 hown' hb4 _)
      obtain ⟨MA, mc, hv, hSM⟩ := own_slice (by decide) hown'
      rw [Nat.zero_add, List.nil_append] at hown'
      rw [List.nil_append] at hv hSM
      subst hv
      replace lw := lw.next hb4
      replace hde := hde.next hb4
      have HB4 := Lib.hid hb4.size
      clear hb4 hmoves
      have kE := kEd.out w4 MA mc lw hSM
      clear hSM
      go_wp2_with fail
      refine kE.mono ?_
      rintro e w5 ⟨⟨b, A2, c2, rfl, hE⟩, hb5⟩
      clear kE
      replace lw := lw.next hb5
      replace hde := hde.next hb5
      have hown5 := own_below hown' hb5
      have HB5 := Lib.hid hb5.size
      have hLO : Hid (W1.heap.size ≤ w4.heap.size ∧ w4.heap.size ≤ w5.heap.size ∧ V2.heap.size ≤ W1.heap.size) := Lib.hid ⟨HB4.out, HB5.out, HBS.out⟩
      have hnil := edges_not_nil w5 (.func 42) #[] #[.pointer (some ⟨b, 0, none⟩)]
      have HLT : Hid ((Value.slice MA l.length mc).ownBlock = none ∨ ∃ g, (Value.slice MA l.length mc).ownBlock = some g ∧ W1.heap.size ≤ g ∧ g < w4.heap.size) := Lib.hid (by
        cases hv : (Value.slice MA l.length mc).ownBlock with
        | none => exact .inl rfl
        | some g => exact .inr ⟨g, rfl, hown'.lt g hv⟩)
      clear hown' hb5 HB4 HB5 HBS
      go_wp2_with fail
      refine wp_loop_mrg [12, 71, 72, 73, 74, 75, 76, 77, 78, 79, 80, 81, 82, 83, 84] (fun mm f ds W3 => ds = [] ∧ ∃ (i : Nat) (ms : List Mv), f 12 = .int .i64 i ∧ mm = l.length - i ∧ i ≤ l.length ∧ ms.length = l.length ∧ W3.ownsRow W1.heap.size 26 6 (.slice MA l.length mc) l.length (flat 6 mvcell ms) ∧ DeS w W3 w.heap.size (w.heap.size + 1) V.heap.size V2.heap.size many A c es ∧ EsB w4.heap.size W3 b A2 c2 es ∧ w5.heap.size ≤ W3.heap.size) l.length ⟨rfl, 0, l, rfl, rfl, Nat.zero_le _, rfl, hown5, hde, hE, Nat.le_refl _⟩ ?_
      clear hown5 hde hE lw
      intro c3' T3' hc2 hT2
      rintro mm f ds W3 ⟨rfl, i3, ms, hf12, rfl, hi3, hml, hown3, hd3, hE3, hbs3⟩
      replace hc2 := hc2.out
      subst hc2
      replace hT2 := hT2.out
      subst hT2
      generalize hF : mrgF _ 0 _ _ = F
      simp only [mrg_hit, mrg_miss, mrg_end, Nat.reduceBEq, Nat.reduceAdd] at hF
      rw [hf12] at hF
      subst hF
      by_cases hlt3 : i3 < l.length
      · have x0z : (0 : Int) ≤ (i3 : Int) := by omega
        have x1z : (i3 : Int) < (l.length : Int) := by omega
        have q0z : decide ((i3 : Int) < (l.length : Int)) = true := decide_eq_true x1z
        have HG : Hid (∃ g, MA = some ⟨g, 0, none⟩) := Lib.hid (by
          rcases hown3.2 with ⟨_, h0⟩ | ⟨g, cap, cur, h, _⟩
          · omega
          · injection h with h1
            exact ⟨g, h1⟩)
        obtain ⟨g, rfl⟩ := HG.out
        have hg : w4.heap.size > g ∧ V2.heap.size ≤ g := by
          rcases HLT.out with h | ⟨g', h, h1, h2⟩
          · cases h
          · have e : g = g' := Option.some.inj h
            have := hLO.out
            omega
        have hgs := HS.out
        obtain ⟨k1, f1⟩ := own_at hown3 (k := i3) (j := 1) (by omega) (by decide)
        obtain ⟨k2, f2⟩ := own_at hown3 (k := i3) (j := 2) (by omega) (by decide)
        obtain ⟨ms1, hm1, ho1⟩ := spoil hown3 (k := i3) (by omega) (.inl rfl)
        obtain ⟨ms2, hm2, ho2⟩ := spoil ho1 (k := i3) (by omega) (.inr rfl)
        have hd31 := hd3.far_row (grown_set W3 g (i3 * 6 + 1) (.int .i64 0)) hown3 (by decide) (by omega) (by omega) (by omega) (by omega)
        have hd32 := hd31.far_row (grown_set _ g (i3 * 6 + 2) (.int .i64 0)) ho1 (by decide) (by omega) (by omega) (by omega) (by omega)
        have hE32 := (hE3.far (grown_set W3 g (i3 * 6 + 1) (.int .i64 0)) hg.1).far (grown_set _ g (i3 * 6 + 2) (.int .i64 0)) hg.1
        have hml2 : ms2.length = l.length := by omega
        have HBS3 : w5.heap.size ≤ ((W3.setCell ⟨g, i3 * 6 + 1, none⟩ (.int .i64 0)).setCell ⟨g, i3 * 6 + 2, none⟩ (.int .i64 0)).heap.size := by rw [World.size_setCell, World.size_setCell]; exact hbs3
        clear hown3 ho1 hd3 hd31 hE3 hgs hm1 hm2
        have HO2 := Lib.hid ho2
        have HD2 := Lib.hid hd32
        have HE3 := Lib.hid hE32
        clear ho2 hd32 hE32
        go_wp2_with fail
        first
          | exact ⟨_, rfl, rfl, l.length - (i3 + 1), by omega, by trivial, i3 + 1, ms2, rfl, rfl, hlt3, hml2, HO2.out, HD2.out, HE3.out, HBS3⟩
          | exact ⟨rfl, l.length - (i3 + 1), by omega, i3 + 1, ms2, rfl, rfl, hlt3, hml2, HO2.out, HD2.out, HE3.out, HBS3⟩
      · obtain rfl : i3 = l.length := by omega
        have q0 : decide ((l.length : Int) < (l.length : Int)) = false := decide_eq_false (by omega)
        obtain ⟨X, HX, x13, hbX, hsX⟩ := boxes1 W3 #[.int .i64 0] 3
        have hE4 := (hE3.next hbX).set_box (i := 0) x13 (by decide) (x13.ne_box (hE3.next hbX).x (by decide)) (.int .i64 0)
        have hd4 := (hd3.next hbX).set_box (i := 0) x13 (by decide) (by have := hLO.out; have := HS.out; omega) (by have := hLO.out; have := HS.out; omega) (by have := hLO.out; have := HS.out; omega) (by have := hLO.out; have := HS.out; omega) (.int .i64 0)
        have x13' := x13.set 0 (.int .i64 0)
        have hX := HX.out
        have k13 := x13.c1
        have f13 := x13.frozen 0
        have HSX := Lib.hid hsX
        clear hown3 hd3 hE3 hbX hsX
        go_wp2_with fail
        clear hX k13 f13
        refine wp_loop_mrg [13, 14, 15, 16, 85, 86, 87, 88, 89, 90, 91, 92, 93, 94, 95, 96, 97, 98, 99, 100, 101, 102, 103, 104, 105, 106, 107, 108, 109, 110, 111, 112, 113, 114, 115, 116, 117, 118, 119, 120, 121, 122, 123, 124, 125, 126, 127, 128, 129, 130, 131, 132, 133, 134, 135, 136, 137, 138, 139, 140, 141, 142, 143, 144] (fun mm f ds W4 => ∃ (τ b13 : Nat), f 13 = .pointer (some ⟨b13, 0, none⟩) ∧ mm = 2 - τ ∧ τ ≤ 2 ∧ DeS w W4 w.heap.size (w.heap.size + 1) V.heap.size V2.heap.size many A c es ∧ EsB w4.heap.size W4 b A2 c2 es ∧ Box W4 b13 #[.int .i64 (τ : Nat)] 3 ∧ w5.heap.size ≤ b13 ∧ Marks w5.heap.size W4.heap.size ds W4 ∧ w5.heap.size ≤ W4.heap.size) 2 ⟨0, W3.heap.size, rfl, rfl, by omega, hd4, hE4, x13', hbs3, Marks.none_, by rw [World.size_setCell, HSX.out]; omega⟩ ?_
        clear hd4 hE4 x13 x13'
        intro c4' T4' hc2 hT2
        rintro mm f ds W4 ⟨τ, b13, hf13, rfl, hτ, hd4, hE4, x13, hb13, hM, hbs4⟩
        replace hc2 := hc2.out
        subst hc2
        replace hT2 := hT2.out
        subst hT2
        generalize hF : mrgF _ 0 _ _ = F
        simp only [mrg_hit, mrg_miss, mrg_end, Nat.reduceBEq, Nat.reduceAdd] at hF
        rw [hf13] at hF
        subst hF
        have lw := LW0.out W4 hd4.bel
        by_cases hlt4 : τ < 2
        · have q0 : decide ((τ : Int) < 2) = true := decide_eq_true (by omega)
          obtain ⟨X2, HX2, x14, hbX2, hsX2⟩ := boxes1 W4 #[.int .i64 0] 3
          obtain ⟨Y, hY⟩ : ∃ Y, X2.setCell ⟨W4.heap.size, 0, none⟩ (.int .i64 0) = Y := ⟨_, rfl⟩
          have hsY : Y.heap.size = W4.heap.size + 1 := by rw [← hY, World.size_setCell, hsX2]
          have hlo : Hid (w.heap.size ≤ W4.heap.size ∧ w.heap.size ≠ W4.heap.size ∧ w.heap.size + 1 ≠ W4.heap.size ∧ V.heap.size ≠ W4.heap.size ∧ V2.heap.size ≤ w5.heap.size ∧ b13 < W4.heap.size) := Lib.hid (by have := hLO.out; have := HS.out; have := x13.lt; omega)
          have hR0 : RgS w w.heap.size (w.heap.size + 1) V.heap.size V2.heap.size many A c es w4.heap.size b A2 c2 b13 W4.heap.size τ w5.heap.size Y.heap.size ds 0 Y := by
            rw [← hY]
            exact ⟨(hd4.next hbX2).set_box (i := 0) x14 (by decide) hlo.out.1 hlo.out.2.1 hlo.out.2.2.1 hlo.out.2.2.2.1 _, (hE4.next hbX2).set_box (i := 0) x14 (by decide) (x14.ne_box (hE4.next hbX2).x (by decide)) _, (x13.below hbX2).set_other (by dsimp only; have := hlo.out; omega) _, x14.set 0 _, ((hM.below hbX2).set_other x14 _).more (by rw [World.size_setCell, hsX2]; omega)⟩
          have k13 := x13.c1
          have k14 := x14.c1
          have f14 := x14.frozen 0
          have hX2 := HX2.out
          have HSY := Lib.hid hsY
          clear hd4 hE4 x13 hbX2 hsX2 hM x14 hsY
          go_wp2_with fail
          clear hX2 k13 k14 f14 hY
          refine wp_range (gf := 42) (lb := #[.pointer (some ⟨b, 0, none⟩)]) rfl (enters_of Tryd.func42 (by kernel_rfl) rfl) (edges_seq b c2 A2 es HEL.out) (fun _ => rfl)
            (fun pre W => RgS w w.heap.size (w.heap.size + 1) V.heap.size V2.heap.size many A c es w4.heap.size b A2 c2 b13 W4.heap.size τ w5.heap.size Y.heap.size ds pre.length W ∧ Hid (τ = 0 → pre.length = 0 ∨ (pre.length : Int) < many))
            (fun c' pre W => c' = .exit 8 ∧ τ = 0 ∧ Hid ((pre.length : Int) = min (es.length : Int) (max 1 many)) ∧ RgS w w.heap.size (w.heap.size + 1) V.heap.size V2.heap.size many A c es w4.heap.size b A2 c2 b13 W4.heap.size τ w5.heap.size Y.heap.size ds pre.length W)
            ?hI ?hIx ?hK ⟨hR0, Lib.hid (fun _ => .inl rfl)⟩ ?round ?done ?stop
          case hI => exact fun pre W W' row ⟨h1, h2⟩ hg hr => ⟨h1.own' (by have := hlo.out; have := HSY.out; omega) (Nat.le_refl _) hg hr, h2⟩
          case hIx => exact fun c' pre W W' row ⟨h1, h2, h3, h4⟩ hg hr => ⟨h1, h2, h3, h4.own' (by have := hlo.out; have := HSY.out; omega) (Nat.le_refl _) hg hr⟩
          case hK => exact fun pre W ⟨h1, _⟩ => ⟨h1.eb.x, h1.eb.sl⟩
          case round =>
            clear hR0
            intro r' pre x post W hL hl' hd hi'
            gi_wp2
            refine ⟨hl', hd, hi', fun _ => True, fun _ _ _ _ _ _ _ => trivial, trivial, ?_⟩
            clear hl' hd hi'
            rintro r'' U hl' hd ⟨hR, hkm⟩ -
            have hk : pre.length < es.length := by rw [hL]; simp
            have hx : es[pre.length] = x := by simp [hL]
            obtain ⟨ad, hA, hab, a0, a1⟩ := hR.de.sl.e2 hk
            rw [hx] at a0 a1
            have HPL : Hid ((pre ++ [x]).length = pre.length + 1) := Lib.hid (by simp)
            simp only [HPL.out]
            clear hL hx HPL
            have hA' := Lib.hid hA
            generalize pre.length = k at *
            have hel := HEL.out
            have y0 : (0 : Int) ≤ (k : Int) := by omega
            have y1 : (k : Int) < (es.length : Int) := by omega
            have q1 : decide ((k : Int) ≥ (es.length : Int)) = false := decide_eq_false (by omega)
            have q2 : decide ((es.length : Int) ≤ (k : Int)) = false := decide_eq_false (by omega)
            have hI := hR.inc hlo.out.1 hlo.out.2.1 hlo.out.2.2.1 hlo.out.2.2.2.1 (by have := hlo.out; omega)
            have D13 := hR.x13.c1
            have D14 := hR.x14.c1
            have D7 := hR.de.x7.c1
            have f14 := hR.x14.frozen 0
            have E13 := hI.x13.c1
            have E14 := hI.x14.c1
            have E5 := hI.de.x5.c1
            have hl8 := hl'.set_other (p := ⟨W4.heap.size, 0, none⟩) (hl'.ne_box rfl hR.x14) (.int .i64 ((k : Int) + 1))
            have hd8 := hd.set_other (p := ⟨W4.heap.size, 0, none⟩) (hd.ne_box rfl hR.x14) (.int .i64 ((k : Int) + 1))
            have HI := Lib.hid (And.intro hl8 (And.intro hd8 hI))
            clear hl' hd hR hI hl8 hd8
            rw [hA] at D7
            by_cases ht0 : τ = 0
            · have qt : ((τ : Int) == 0) = true := by simpa using ht0
              by_cases hm : many ≤ (k : Int) + 1
              · have qm : decide ((k : Int) + 1 ≥ many) = true := decide_eq_true hm
                have qm' : decide (many ≤ (k : Int) + 1) = true := decide_eq_true hm
                have hq : Hid (((k + 1 : Nat) : Int) = min (es.length : Int) (max 1 many)) := Lib.hid (took_some (hkm.out ht0) hm hk)
                gi_wp2_with fail
                exact ⟨HI.out.1, HI.out.2.1, rfl, ht0, hq, HI.out.2.2⟩
              · have qm : decide ((k : Int) + 1 ≥ many) = false := decide_eq_false hm
                have qm' : decide (many ≤ (k : Int) + 1) = false := decide_eq_false hm
                have hkn : Hid (τ = 0 → k + 1 = 0 ∨ ((k + 1 : Nat) : Int) < many) := Lib.hid (fun _ => .inr (by omega))
                gi_wp2_with fail
                first
                  | exact ⟨HI.out.1, HI.out.2.1, HI.out.2.2, hkn⟩
                  | (subst hA; subst ht0; exact ⟨HI.out.1, HI.out.2.1, HI.out.2.2, Lib.hid trivial⟩)
                  | (subst hA; subst ht0; exact ⟨HI.out.1, HI.out.2.1, HI.out.2.2, hkn⟩)
            · have qt : ((τ : Int) == 0) = false := by simp; omega
              have hkn : Hid (τ = 0 → k + 1 = 0 ∨ ((k + 1 : Nat) : Int) < many) := Lib.hid (fun h => absurd h ht0)
              gi_wp2_with fail
              exact ⟨HI.out.1, HI.out.2.1, HI.out.2.2, hkn⟩
          case done =>
            rintro W ⟨hR, hkm⟩ hD
            have hq : Hid ((τ = 0 → (es.length : Int) = min (es.length : Int) (max 1 many)) ∧ (τ = 1 → es.length = es.length)) := Lib.hid ⟨fun h => took_all (hkm.out h), fun _ => rfl⟩
            clear hkm
            have hMf := hR.mrk.cons (C := Y.heap.size) (D := Y.heap.size) (by have := HSY.out; omega) (Nat.le_refl _) hD
            have hDl := hD.lt
            have hMg := hMf.more (C' := W.heap.size) (by omega)
            have HWS : Hid (w5.heap.size ≤ W.heap.size) := Lib.hid (by have := HSY.out; omega)
            have D13 := hR.x13.c1
            have D14 := hR.x14.c1
            have D7 := hR.de.x7.c1
            have D5 := hR.de.x5.c1
            obtain ⟨X3, HX3, x3, hbX3, hsX3⟩ := boxes1 W #[.int .i64 0] 3
            have d3 := hR.de.next hbX3
            have e3 := hR.eb.next hbX3
            have m3 := hMg.below hbX3
            have hlw : Hid (w.heap.size ≤ W.heap.size ∧ w.heap.size ≠ W.heap.size ∧ w.heap.size + 1 ≠ W.heap.size ∧ V.heap.size ≠ W.heap.size) := Lib.hid (by have := hlo.out; have := HWS.out; have := HS.out; omega)
            have d4 := d3.set_box (i := 0) x3 (by decide) hlw.out.1 hlw.out.2.1 hlw.out.2.2.1 hlw.out.2.2.2 (.int .i64 (τ : Nat))
            have e4 := e3.set_box (i := 0) x3 (by decide) (x3.ne_box e3.x (by decide)) (.int .i64 (τ : Nat))
            have m4 := m3.set_other (i := 0) x3 (.int .i64 (τ : Nat))
            have x4 := x3.set 0 (.int .i64 (τ : Nat))
            have d5 := d4.set_box (i := 0) x4 (by decide) hlw.out.1 hlw.out.2.1 hlw.out.2.2.1 hlw.out.2.2.2 (.int .i64 ((τ : Int) + 1))
            have e5 := e4.set_box (i := 0) x4 (by decide) (x4.ne_box e4.x (by decide)) (.int .i64 ((τ : Int) + 1))
            have m5 := m4.set_other (i := 0) x4 (.int .i64 ((τ : Int) + 1))
            have x5 := x4.set 0 (.int .i64 ((τ : Int) + 1))
            have m6 := m5.more (C' := X3.heap.size) (by rw [hsX3]; omega)
            have hsz : w5.heap.size ≤ X3.heap.size := by rw [hsX3]; have := HWS.out; omega
            have k3 := x3.c1
            have g3 := x3.frozen 0
            have k4 := x4.c1
            have g4 := x4.frozen 0
            have G5 := Lib.hid d5
            have G6 := Lib.hid e5
            have G7 := Lib.hid m6
            have G8 := Lib.hid x5
            have G9 := Lib.hid hsz
            have hX3 := HX3.out
            clear hMf hDl hMg hR hD d3 e3 m3 d4 e4 m4 x4 d5 e5 m5 x5 m6 hsz x3 hbX3 hsX3 hR0
            by_cases ht0 : τ = 0
            · subst ht0
              have hqq := (hq.out.1 rfl).symm
              go_wp2_with fail
              first
                | exact ⟨rfl, 1, W.heap.size, rfl, rfl, by omega, G5.out, G6.out, G8.out, HWS.out, G7.out, G9.out⟩
                | exact ⟨rfl, 1, by omega, 1, W.heap.size, rfl, rfl, by omega, G5.out, G6.out, G8.out, HWS.out, G7.out, G9.out⟩
                | exact ⟨_, rfl, rfl, 1, by omega, 1, W.heap.size, rfl, rfl, by omega, G5.out, G6.out, G8.out, HWS.out, G7.out, G9.out⟩
                | show False
            · obtain rfl : τ = 1 := by omega
              have hqq := hq.out.2 rfl
              go_wp2_with fail
              first
                | exact ⟨rfl, 2, W.heap.size, rfl, rfl, by omega, G5.out, G6.out, G8.out, HWS.out, G7.out, G9.out⟩
                | exact ⟨rfl, 0, by omega, 2, W.heap.size, rfl, rfl, by omega, G5.out, G6.out, G8.out, HWS.out, G7.out, G9.out⟩
                | exact ⟨_, rfl, rfl, 0, by omega, 2, W.heap.size, rfl, rfl, by omega, G5.out, G6.out, G8.out, HWS.out, G7.out, G9.out⟩
                | show False
          case stop =>
            rintro c' pre W ⟨rfl, ht0, hq0, hR⟩ hD
            have hq : Hid ((τ = 0 → (pre.length : Int) = min (es.length : Int) (max 1 many)) ∧ (τ = 1 → pre.length = es.length)) := Lib.hid ⟨fun h => hq0.out, fun h => by omega⟩
            clear hq0 ht0
            generalize pre.length = k at *
            have hMf := hR.mrk.cons (C := Y.heap.size) (D := Y.heap.size) (by have := HSY.out; omega) (Nat.le_refl _) hD
            have hDl := hD.lt
            have hMg := hMf.more (C' := W.heap.size) (by omega)
            have HWS : Hid (w5.heap.size ≤ W.heap.size) := Lib.hid (by have := HSY.out; omega)
            have D13 := hR.x13.c1
            have D14 := hR.x14.c1
            have D7 := hR.de.x7.c1
            have D5 := hR.de.x5.c1
            obtain ⟨X3, HX3, x3, hbX3, hsX3⟩ := boxes1 W #[.int .i64 0] 3
            have d3 := hR.de.next hbX3
            have e3 := hR.eb.next hbX3
            have m3 := hMg.below hbX3
            have hlw : Hid (w.heap.size ≤ W.heap.size ∧ w.heap.size ≠ W.heap.size ∧ w.heap.size + 1 ≠ W.heap.size ∧ V.heap.size ≠ W.heap.size) := Lib.hid (by have := hlo.out; have := HWS.out; have := HS.out; omega)
            have d4 := d3.set_box (i := 0) x3 (by decide) hlw.out.1 hlw.out.2.1 hlw.out.2.2.1 hlw.out.2.2.2 (.int .i64 (τ : Nat))
            have e4 := e3.set_box (i := 0) x3 (by decide) (x3.ne_box e3.x (by decide)) (.int .i64 (τ : Nat))
            have m4 := m3.set_other (i := 0) x3 (.int .i64 (τ : Nat))
            have x4 := x3.set 0 (.int .i64 (τ : Nat))
            have d5 := d4.set_box (i := 0) x4 (by decide) hlw.out.1 hlw.out.2.1 hlw.out.2.2.1 hlw.out.2.2.2 (.int .i64 ((τ : Int) + 1))
            have e5 := e4.set_box (i := 0) x4 (by decide) (x4.ne_box e4.x (by decide)) (.int .i64 ((τ : Int) + 1))
            have m5 := m4.set_other (i := 0) x4 (.int .i64 ((τ : Int) + 1))
            have x5 := x4.set 0 (.int .i64 ((τ : Int) + 1))
            have m6 := m5.more (C' := X3.heap.size) (by rw [hsX3]; omega)
            have hsz : w5.heap.size ≤ X3.heap.size := by rw [hsX3]; have := HWS.out; omega
            have k3 := x3.c1
            have g3 := x3.frozen 0
            have k4 := x4.c1
            have g4 := x4.frozen 0
            have G5 := Lib.hid d5
            have G6 := Lib.hid e5
            have G7 := Lib.hid m6
            have G8 := Lib.hid x5
            have G9 := Lib.hid hsz
            have hX3 := HX3.out
            clear hMf hDl hMg hR hD d3 e3 m3 d4 e4 m4 x4 d5 e5 m5 x5 m6 hsz x3 hbX3 hsX3 hR0
            by_cases ht0 : τ = 0
            · subst ht0
              have hqq := (hq.out.1 rfl).symm
              go_wp2_with fail
              first
                | exact ⟨rfl, 1, W.heap.size, rfl, rfl, by omega, G5.out, G6.out, G8.out, HWS.out, G7.out, G9.out⟩
                | exact ⟨rfl, 1, by omega, 1, W.heap.size, rfl, rfl, by omega, G5.out, G6.out, G8.out, HWS.out, G7.out, G9.out⟩
                | exact ⟨_, rfl, rfl, 1, by omega, 1, W.heap.size, rfl, rfl, by omega, G5.out, G6.out, G8.out, HWS.out, G7.out, G9.out⟩
                | show False
            · obtain rfl : τ = 1 := by omega
              have hqq := hq.out.2 rfl
              go_wp2_with fail
              first
                | exact ⟨rfl, 2, W.heap.size, rfl, rfl, by omega, G5.out, G6.out, G8.out, HWS.out, G7.out, G9.out⟩
                | exact ⟨rfl, 0, by omega, 2, W.heap.size, rfl, rfl, by omega, G5.out, G6.out, G8.out, HWS.out, G7.out, G9.out⟩
                | exact ⟨_, rfl, rfl, 0, by omega, 2, W.heap.size, rfl, rfl, by omega, G5.out, G6.out, G8.out, HWS.out, G7.out, G9.out⟩
                | show False
        · obtain rfl : τ = 2 := by omega
          have q0 : decide (((2 : Nat) : Int) < 2) = false := by decide
          replace lw := LW0.out W4 hd4.bel
          have k13 := x13.c1
          have x6 := hd4.x6
          go_wp2_with fail
          refine lw.known.mono ?_
          rintro e x99 ⟨rfl, hb9⟩
          have k6 := x6.below hb9
          have kc := k6.c1
          have kf := k6.frozen 0
          go_wp2_with fail
          have kz := k6.set 0 (.bool true)
          have kb := (after_ lw.bel hb9).setCell (p := ⟨w.heap.size + 1, 0, none⟩) (by dsimp only; omega) (.bool true)
          refine leaves_marks (B := w5.heap.size)  _ _ ((hM.below hb9).set_other k6 (.bool true)) (fun W' hs => ?_)
          have kz0 := (hs.box kz).c1
          exact ⟨.bool true, by simp [results, Tryd.results8, go_sem, kz0], rfl, kb.trans (hs.below.mono (by have := hLO.out; have := HS.out; omega))⟩
end Go.Proofs.YtceobfigfmnacaaDoor
end
