/- A bundle of texts: LdHo. -/
import Derived.Test.YtceobfigfmnacaaDoorH26
section
namespace Go.Proofs.YtceobfigfmnacaaDoor
open Go Go.RowKit Go.Maps
set_option maxRecDepth 100000
theorem M.grps_at {ps : List P5} {l : List Mv} (hok : M.mvsOk l) {gs : List SLc} (hgs : gs.map (·.xs) = M.grps ps l) : ∀ i (hi : i < gs.length) k, k < gs[i].xs.length → ∃ x y, x < l.length ∧ y < l.length ∧ Dg.Same (M.rows ps l) x y ∧ gs[i].xs.getD k 0 = M.stv l x ∧ gs[i].xs.getD 0 0 = M.stv l y := by
  intro i hi k hk
  have hig : i < (M.grps ps l).length := by rw [← hgs]; simpa using hi
  have e : gs[i].xs = (M.grps ps l)[i] := by
    have e1 : (gs.map (·.xs))[i]'(by simpa using hi) = gs[i].xs := by simp
    rw [← e1]; simp only [hgs]
  have h1 : gs[i].xs[k] ∈ (M.grps ps l)[i] := by rw [← e]; exact List.getElem_mem hk
  have h2 : gs[i].xs[0]'(by omega) ∈ (M.grps ps l)[i] := by rw [← e]; exact List.getElem_mem _
  obtain ⟨h3, x, hx, hsx, ex⟩ := (M.grps_mem hok hig).1 h1
  obtain ⟨h4, y, hy, hsy, ey⟩ := (M.grps_mem hok hig).1 h2
  exact ⟨x, y, hx, hy, hsx.symm.trans hsy, by rw [← ex, List.getD_eq_getElem?_getD, List.getElem?_eq_getElem hk]; rfl, by rw [← ey, List.getD_eq_getElem?_getD, List.getElem?_eq_getElem (show 0 < gs[i].xs.length by omega)]; rfl⟩
set_option maxHeartbeats 64000000 in
theorem dependHolds_walk (PA : Option Addr) (pc : Nat) (ps : List P5) (LA : Option Addr) (lc : Nat) (l : List Mv) (OA : Option Addr) (oc : Nat) (os : List SLc) (w : World) (ht : Tab64 w) (hP : Sl 5 p5cell w w.heap.size PA ps) (hL : Sl 6 mvcell w w.heap.size LA l) (hi : M.Ints ps l) (hO : LL w OA os) (hoi : ∀ s ∈ os, ∀ x ∈ s.xs, M.W64 x) :
    Calls Tryd.prog 6 #[.slice PA ps.length pc, .slice LA l.length lc, .slice OA os.length oc] w fun e w' => e = .returned (.bool true) ∧ Below w.heap.size w w' := by
  have HIN := Lib.hid hi
  have lw : LW w w PA LA ps l := ⟨Below.refl _ _, ht, hP, hL, hi⟩
  clear ht hP hL hi
  obtain ⟨f1, hf1⟩ : ∃ f, decide (ps.length ≤ 40) = f := ⟨_, rfl⟩
  obtain ⟨f2, hf2⟩ : ∃ f, decide (l.length ≤ 9) = f := ⟨_, rfl⟩
  have kF := few_any PA pc ps.length LA lc l.length w
  rw [hf1, hf2] at kF
  have HOI := Lib.hid hoi
  clear hoi
  go_enter Tryd.func6, Tryd.ntmps6
  go_wp2_with fail
  refine kF.mono ?_
  rintro e w2 ⟨rfl, rfl⟩
  clear kF
  by_cases hfw : (f1 && f2) = true
  case neg =>
    rw [Bool.not_eq_true] at hfw
    rw [hfw]
    go_wp2_with fail
    refine lw.known.mono ?_
    rintro e x99 ⟨rfl, hb9⟩
    go_wp2_with fail
    go_ret
    exact ⟨rfl, after_ lw.bel hb9⟩
  case pos =>
    rw [hfw]
    rw [Bool.and_eq_true] at hfw
    obtain ⟨rfl, rfl⟩ := hfw
    have hp := of_decide_eq_true hf1
    have hl := of_decide_eq_true hf2
    clear hf1 hf2
    by_cases hon : os.length ≤ 12
    case neg =>
      have q0 : decide ((12 : Int) < (os.length : Int)) = true := decide_eq_true (by omega)
      go_wp2_with fail
      refine lw.known.mono ?_
      rintro e x99 ⟨rfl, hb9⟩
      go_wp2_with fail
      go_ret
      exact ⟨rfl, after_ lw.bel hb9⟩
    case pos =>
      have q0 : decide ((12 : Int) < (os.length : Int)) = false := decide_eq_false (by omega)
      by_cases hok : M.mvsOk l
      case neg =>
        go_wp2_with fail
        refine (lw.groupsNo pc lc (by omega) hok).mono ?_
        rintro e x1 ⟨rfl, hbx⟩
        replace lw := lw.next hbx
        clear hbx
        clear q0
        go_wp2_with fail
        refine (lw.depthNo pc lc (by omega) hok).mono ?_
        rintro e x2 ⟨rfl, hbx⟩
        replace lw := lw.next hbx
        clear hbx
        go_wp2_with fail
        refine lw.known.mono ?_
        rintro e x99 ⟨rfl, hb9⟩
        go_wp2_with fail
        go_ret
        exact ⟨rfl, after_ lw.bel hb9⟩
      case pos =>
        have hgl := M.grps_len (ps := ps) hok
        have hgw := M.grps_w (ps := ps) hok HIN.out
        have HG0 := Lib.hid (M.grps_legal (ps := ps) hok)
        have hdg := M.depth_grps ps l
        have hdz := M.depth_none (ps := ps) hok
        have HOK := Lib.hid hok
        go_wp2_with fail
        refine (lw.groups pc lc (by omega) (by omega) hok).mono ?_
        rintro e x1 ⟨⟨GA, gc, gs, rfl, g0, hgs⟩, hbx⟩
        replace lw := lw.next hbx
        replace hO := hO.next hbx
        clear hbx
        have g1 := g0.ll
        clear g0 q0
        have hgn : gs.length = (M.grps ps l).length := by rw [← hgs, List.length_map]
        have hl2 : ∀ s ∈ gs, s.xs.length ≤ 512 ∧ ∀ x ∈ s.xs, M.W64 x := fun s hm => by
          have h2 : s.xs ∈ M.grps ps l := by rw [← hgs]; exact List.mem_map.2 ⟨s, hm, rfl⟩
          exact ⟨hgl.2 _ h2, hgw _ h2⟩
        have hgn5 : gs.length ≤ 512 := by omega
        have HL2 := Lib.hid hl2
        have HGS := Lib.hid hgs
        have HGA := Lib.hid (M.grps_at hok hgs)
        rw [← hgn] at hdg
        have HGL : Hid (M.legal ps l (gs.map (·.xs)) = 0) := Lib.hid (by rw [hgs]; exact HG0.out)
        clear hl2 hgs hgn hgl hgw HG0
        go_wp2_with fail
        refine (lw.depth pc lc (by omega) (by omega) hok).mono ?_
        rintro e x2 ⟨rfl, hbx⟩
        replace lw := lw.next hbx
        replace hO := hO.next hbx
        replace g1 := g1.next hbx
        clear hbx
        generalize Dg.depth (M.rows ps l) = dp at *
        have kL := lw.legal pc lc GA gc gs g1 (by omega) (fun s hm => ⟨by have := (HL2.out s hm).1; omega, (HL2.out s hm).2⟩) (by omega) (by omega) hok
        rw [HGL.out] at kL
        have qa : decide ((gs.length : Int) < (dp : Int)) = false := decide_eq_false (by omega)
        have qa2 : decide (gs.length < dp) = false := decide_eq_false (by omega)
        obtain ⟨z, hz⟩ : ∃ z, ((dp : Int) == 0) = z := ⟨_, rfl⟩
        have qb : ((l.length : Int) == 0) = z := by
          rw [← hz, Bool.eq_iff_iff, beq_iff_eq, beq_iff_eq]
          omega
        have qb2 : (dp == 0) = z := by
          rw [← hz, Bool.eq_iff_iff, beq_iff_eq, beq_iff_eq]
          omega
        have qb3 : (l.length == 0) = z := by
          rw [← hz, Bool.eq_iff_iff, beq_iff_eq, beq_iff_eq]
          omega
        have qd : (z != z) = false := by cases z <;> rfl
        clear hdg hdz
        have hund : undef = Value.tuple #[] := rfl
        go_wp2_with fail
        refine kL.mono ?_
        rintro e x3 ⟨rfl, hbx⟩
        replace lw := lw.next hbx
        replace hO := hO.next hbx
        replace g1 := g1.next hbx
        clear hbx kL
        go_wp2_with fail
        clear qa qa2 hz qb qb2 qb3 qd hund
        refine holds_reg9 (by omega) (by kernel_rfl) ?_
        rintro z83 z84 z85 z86 z87 z88 Y ga gb r1 r2 hab hbY
        have hga : x3.heap.size ≤ gb := (own_lt r2).1
        replace r2 : BR Y x3.heap.size gb l.length (fun j => decide (j < 0)) := BR.congr (f := fun _ => false) r2 (fun j _ => by simp)
        go_wp2_with fail
        refine wp_loop_mrg [13, 89, 90, 91, 92, 93, 94, 95, 96, 97] (fun mm f ds W1 => ds = [] ∧ ∃ (i : Nat), f 13 = .int .i64 i ∧ mm = l.length - i ∧ i ≤ l.length ∧ Below x3.heap.size x3 W1 ∧ BR W1 x3.heap.size ga l.length (fun _ => false) ∧ BR W1 x3.heap.size gb l.length (fun j => decide (j < i))) l.length ⟨rfl, 0, rfl, rfl, Nat.zero_le _, hbY, r1, r2⟩ ?_
        clear r1 r2 hbY
        intro c1' T1' hc2 hT2
        rintro mm f ds W1 ⟨rfl, i, hf13, rfl, hi, hB, r1, r2⟩
        replace hc2 := hc2.out
        subst hc2
        replace hT2 := hT2.out
        subst hT2
        generalize hF : mrgF _ 0 _ _ = F
        simp only [mrg_hit, mrg_miss, mrg_end, Nat.reduceBEq, Nat.reduceAdd] at hF
        rw [hf13] at hF
        subst hF
        by_cases hlt : i < l.length
        · have x0i : (0 : Int) ≤ (i : Int) := by omega
          have x1i : (i : Int) < (l.length : Int) := by omega
          have q0i : decide ((i : Int) < (l.length : Int)) = true := decide_eq_true x1i
          obtain ⟨c0, f0⟩ := r2.at hlt
          have r3 := BR.congr (f' := fun j => decide (j < i + 1)) (r2.set hlt true) (fun j _ => by
            by_cases e : j = i
            · subst e; simp
            · rw [if_neg e]; exact decide_eq_decide.2 (by omega))
          have r4 : BR (W1.setCell ⟨gb, i, none⟩ (.bool true)) x3.heap.size ga l.length (fun _ => false) := World.ownsRow.kept r1 (grown_set W1 gb i (.bool true)) (.inr (fun e => hab (Option.some.inj e)))
          have hB2 := hB.setCell (p := ⟨gb, i, none⟩) hga (.bool true)
          go_wp2_with fail
          first
            | exact ⟨_, rfl, rfl, l.length - (i + 1), by omega, by trivial, i + 1, rfl, rfl, hlt, hB2, r4, r3⟩
            | exact ⟨rfl, l.length - (i + 1), by omega, i + 1, rfl, rfl, hlt, hB2, r4, r3⟩
        · obtain rfl : i = l.length := by omega
          have q0 : decide ((l.length : Int) < (l.length : Int)) = false := decide_eq_false (by omega)
          replace r2 := BR.congr (f' := fun _ => true) r2 (fun j hj => decide_eq_true hj)
          replace lw := lw.next hB
          replace g1 := g1.next hB
          replace hO := hO.next hB
          clear hB q0
          have kN := lw.free pc lc (some ⟨ga, 0, none⟩) l.length (fun _ => false) (Sl.of_own (by decide) r1) (by omega) (by omega)
          go_wp2_with fail
          refine kN.mono ?_
          rintro e x4 ⟨⟨r, rfl, hr⟩, hbx⟩
          have HRN := Lib.hid hr
          replace lw := lw.next hbx
          replace g1 := g1.next hbx
          replace hO := hO.next hbx
          replace r2 := own_below r2 hbx
          clear hbx r1 kN hr
          cases r with
          | false =>
            go_wp2_with fail
            refine wp_loop_mrg [15, 116, 117, 118, 119, 120, 121, 122, 123, 124, 125, 126, 127, 128] (fun mm f ds W1 => ds = [] ∧ W1 = x4 ∧ ∃ (i : Nat), f 15 = .int .i64 i ∧ mm = os.length - i ∧ i ≤ os.length ∧ Hid (∀ j (hj : j < os.length), j < i → os[j].xs.length ≤ 12)) os.length ⟨rfl, rfl, 0, rfl, rfl, Nat.zero_le _, Lib.hid (fun j _ h => absurd h (by omega))⟩ ?_
            intro c2' T2' hc2 hT2
            rintro mm f ds W1 ⟨rfl, hW0, i, hf15, rfl, hi, HI⟩
            replace hc2 := hc2.out
            subst hc2
            replace hT2 := hT2.out
            subst hT2
            generalize hF : mrgF _ 0 _ _ = F
            simp only [mrg_hit, mrg_miss, mrg_end, Nat.reduceBEq, Nat.reduceAdd] at hF
            rw [hf15] at hF
            subst hF
            subst hW0
            by_cases hlt : i < os.length
            · have x0i : (0 : Int) ≤ (i : Int) := by omega
              have x1i : (i : Int) < (os.length : Int) := by omega
              have q0i : decide ((i : Int) < (os.length : Int)) = true := decide_eq_true x1i
              obtain ⟨la, hla, hlb, a0⟩ := hO.outer.one_at hlt
              rw [show slcell os[i] 0 = .slice os[i].A os[i].xs.length os[i].c from rfl] at a0
              have HI2 : Hid (os[i].xs.length ≤ 12 → ∀ j (hj : j < os.length), j < i + 1 → os[j].xs.length ≤ 12) := Lib.hid (fun h j hj h2 => by
                by_cases e : j = i
                · subst e; exact h
                · exact HI.out j hj (by omega))
              clear HI
              generalize os[i] = s at *
              have HLA := Lib.hid hla
              subst hla
              by_cases h12 : s.xs.length ≤ 12
              · have q1 : decide ((12 : Int) < (s.xs.length : Int)) = false := decide_eq_false (by omega)
                have HI3 := Lib.hid (HI2.out h12)
                clear HI2 h12
                go_wp2_with fail
                first
                  | exact ⟨_, rfl, rfl, os.length - (i + 1), by omega, by trivial, by trivial, i + 1, rfl, rfl, hlt, HI3⟩
                  | exact ⟨rfl, os.length - (i + 1), by omega, by trivial, i + 1, rfl, rfl, hlt, HI3⟩
                  | exact ⟨_, rfl, rfl, os.length - (i + 1), by omega, by trivial, i + 1, rfl, rfl, hlt, HI3⟩
                  | exact ⟨rfl, os.length - (i + 1), by omega, i + 1, rfl, rfl, hlt, HI3⟩
              · have q1 : decide ((12 : Int) < (s.xs.length : Int)) = true := decide_eq_true (by omega)
                clear HI2 h12
                go_wp2_with fail
                refine lw.known.mono ?_
                rintro e x99 ⟨rfl, hb9⟩
                go_wp2_with fail
                go_ret
                exact ⟨rfl, after_ lw.bel hb9⟩
            · obtain rfl : i = os.length := by omega
              have q0 : decide ((os.length : Int) < (os.length : Int)) = false := decide_eq_false (by omega)
              have h12 : ∀ s ∈ os, s.xs.length ≤ 12 := fun s hs => by
                obtain ⟨j, hj, rfl⟩ := List.getElem_of_mem hs
                exact HI.out j hj hj
              have H12 := Lib.hid h12
              clear h12 HI
              have kL := lw.legal pc lc OA oc os hO (by omega) (fun s hs => ⟨by have := H12.out s hs; omega, HOI.out s hs⟩) (by omega) (by omega) HOK.out
              obtain ⟨lg, hlg⟩ : ∃ lg, M.legal ps l (os.map (·.xs)) = lg := ⟨_, rfl⟩
              rw [hlg] at kL
              have HLG := Lib.hid hlg
              clear hlg
              go_wp2_with fail
              clear q0
              refine kL.mono ?_
              rintro e x31 ⟨rfl, hbx⟩
              replace lw := lw.next hbx
              replace hO := hO.next hbx
              replace g1 := g1.next hbx
              clear hbx kL
              by_cases hl0 : lg = 0
              case neg =>
                have q1 : (lg != 0) = true := by simpa using hl0
                clear hl0
                go_wp2_with fail
                refine lw.known.mono ?_
                rintro e x99 ⟨rfl, hb9⟩
                go_wp2_with fail
                go_ret
                exact ⟨rfl, after_ lw.bel hb9⟩
              case pos =>
                subst hl0
                have q1 : ((0 : Int) != 0) = false := rfl
                clear q1
                have hmm : (Instr.makeMap 56 none).run Tryd.prog x31 = .ok (.map (some x31.heap.size)) (x31.alloc (.map #[] 0)) := by
                  simp [Instr.makeMap, Result.andThen]
                obtain ⟨U, HU⟩ : ∃ U, Hid (x31.alloc (.map #[] 0) = U) := ⟨_, Lib.hid rfl⟩
                have hU := HU.out
                have hbU : Below x31.heap.size x31 U := by rw [← hU]; exact (Below.refl _ _).alloc (Nat.le_refl _) _
                have hown : U.ownsMap Tryd.prog 3 (plainElem (H := Unit) Tryd.prog 3) x31.heap.size 0 (.map []) := by rw [← hU]; exact World.ownsMap_made _ _ _ _
                go_wp2_with fail
                clear hU hmm HU
                have HNX := Lib.hid (fun i k (h : i < (os.map (fun x : SLc => x.xs)).length) (hk : k < ((os.map (fun x : SLc => x.xs))[i]).length) => M.flat_new (M.legal_nodup HOK.out HLG.out) h hk)
                have HST := Lib.hid (M.legal_sets HOK.out HLG.out)
                refine wp_loop_mrg [17, 18, 144, 145, 146, 147, 148, 149, 150, 151, 152, 153, 154, 155, 156, 157, 158, 159, 160, 161, 162, 163, 164, 165, 166, 167] (fun mm f ds W2 => ds = [] ∧ ∃ (i cnt : Nat) (D : DataW Unit), f 17 = .int .i64 i ∧ mm = os.length - i ∧ i ≤ os.length ∧ Below x31.heap.size x31 W2 ∧ W2.ownsMap Tryd.prog 3 (plainElem (H := Unit) Tryd.prog 3) x31.heap.size cnt D ∧ Hid (AtD D (M.flatO 0 ((os.map (·.xs)).take i)) ∧ cnt ≤ 12 * i)) os.length ⟨rfl, 0, 0, _, rfl, rfl, Nat.zero_le _, hbU, hown, Lib.hid ⟨AtD.start, Nat.le_refl _⟩⟩ ?_
                clear hown hbU
                intro c3' T3' hc2 hT2
                rintro mm f ds W2 ⟨rfl, i, cnt, D, hf17, rfl, hi, hB, hown, HD⟩
                replace hc2 := hc2.out
                subst hc2
                replace hT2 := hT2.out
                subst hT2
                generalize hF : mrgF _ 0 _ _ = F
                simp only [mrg_hit, mrg_miss, mrg_end, Nat.reduceBEq, Nat.reduceAdd] at hF
                rw [hf17] at hF
                subst hF
                by_cases hlt : i < os.length
                · have x0i : (0 : Int) ≤ (i : Int) := by omega
                  have x1i : (i : Int) < (os.length : Int) := by omega
                  have q0i : decide ((i : Int) < (os.length : Int)) = true := decide_eq_true x1i
                  have HOU : Hid (∀ W, Below x31.heap.size x31 W → ∃ la, OA = some la ∧ (la.add i).block < W.heap.size ∧ W.cell? (la.add i) = some (slcell os[i] 0)) := Lib.hid (fun W hb => (hO.next hb).outer.one_at hlt)
                  have HIW : Hid (∀ W, Below x31.heap.size x31 W → Sl 1 icell W W.heap.size os[i].A os[i].xs) := Lib.hid (fun W hb => (hO.next hb).inner _ (List.getElem_mem hlt))
                  have H12i := H12.out os[i] (List.getElem_mem hlt)
                  have HOW := Lib.hid (HOI.out os[i] (List.getElem_mem hlt))
                  have HNI : Hid (∀ k (hk : k < os[i].xs.length), os[i].xs[k] ∉ (M.flatO 0 ((os.map (·.xs)).take i) ++ (os[i].xs.take k).map (fun st => (i, st))).map (·.2)) := Lib.hid (fun k hk => by
                    have h := HNX.out i k (by simpa using hlt) (by simpa using hk)
                    simpa using h)
                  have HTK : Hid (M.flatO 0 ((os.map (·.xs)).take (i + 1)) = M.flatO 0 ((os.map (·.xs)).take i) ++ os[i].xs.map (fun st => (i, st))) := Lib.hid (by rw [M.flatO_take (by simpa using hlt)]; simp)
                  generalize os[i] = s at *
                  generalize M.flatO 0 ((os.map (·.xs)).take i) = pf at *
                  have HD0 : Hid (AtD D (pf ++ (s.xs.map (fun st => (i, st))).take 0) ∧ cnt ≤ 12 * i + 0) := Lib.hid ⟨by simpa using HD.out.1, HD.out.2⟩
                  clear HD
                  go_wp2_with fail
                  refine wp_loop_mrg [18, 150, 151, 152, 153, 154, 155, 156, 157, 158, 159, 160, 161, 162, 163, 164, 165, 166, 167] (fun mm f ds W3 => ds = [] ∧ ∃ (k cnt : Nat) (D : DataW Unit), f 18 = .int .i64 k ∧ mm = s.xs.length - k ∧ k ≤ s.xs.length ∧ Below x31.heap.size x31 W3 ∧ W3.ownsMap Tryd.prog 3 (plainElem (H := Unit) Tryd.prog 3) x31.heap.size cnt D ∧ Hid (AtD D (pf ++ (s.xs.map (fun st => (i, st))).take k) ∧ cnt ≤ 12 * i + k)) s.xs.length ⟨rfl, 0, cnt, D, rfl, rfl, Nat.zero_le _, hB, hown, HD0⟩ ?_
                  clear hB hown HD0
                  intro c4' T4' hc2 hT2
                  rintro mm f ds W3 ⟨rfl, k, cnt1, D1, hf18, rfl, hk, hB1, hown1, HD1⟩
                  replace hc2 := hc2.out
                  subst hc2
                  replace hT2 := hT2.out
                  subst hT2
                  generalize hF : mrgF _ 0 _ _ = F
                  simp only [mrg_hit, mrg_miss, mrg_end, Nat.reduceBEq, Nat.reduceAdd] at hF
                  rw [hf18] at hF
                  subst hF
                  obtain ⟨la, hla, hlb, a0⟩ := HOU.out W3 hB1
                  rw [show slcell s 0 = .slice s.A s.xs.length s.c from rfl] at a0
                  have HLA := Lib.hid hla
                  subst hla
                  by_cases hlk : k < s.xs.length
                  · have x0k : (0 : Int) ≤ (k : Int) := by omega
                    have x1k : (k : Int) < (s.xs.length : Int) := by omega
                    have q0k : decide ((k : Int) < (s.xs.length : Int)) = true := decide_eq_true x1k
                    obtain ⟨lb, hlb1, hlb2, b0⟩ := (HIW.out W3 hB1).int_at hlk
                    have HKY : Hid (keyOf Tryd.prog 3 (.int .i64 s.xs[k]) = some (.int .i64 s.xs[k])) := Lib.hid (Maps.keyOf_int_mk (P := Tryd.prog) Tryd.underlying3 (wf64 (HOW.out _ (List.getElem_mem hlk))))
                    have HD2 : Hid (AtD (D1.put (.int .i64 s.xs[k]) (.lit (.int .i64 i))) (pf ++ (s.xs.map (fun st => (i, st))).take (k + 1)) ∧ cnt1 + 1 ≤ 12 * i + (k + 1)) := Lib.hid ⟨by
                      have h := HD1.out.1.put i s.xs[k] (by rw [← List.map_take]; exact HNI.out k hlk)
                      rw [← List.map_take] at h
                      rw [← List.map_take, List.take_succ_eq_append_getElem hlk, List.map_append, ← List.append_assoc]
                      exact h, by have := HD1.out.2; omega⟩
                    have HCM : Hid (cnt1 < maxLen) := Lib.hid (by have := HD1.out.2; unfold maxLen; omega)
                    have HWI : Hid ((Lit.int .i64 (i : Int)).wf = true) := Lib.hid (wf64 ⟨by omega, by omega⟩)
                    generalize s.xs[k] = st at *
                    rw [hlb1] at a0
                    have HLB := Lib.hid hlb1
                    clear hlb1 HD1
                    go_wp2_with (at_mapUpdate; refine wpList_mapUpdate_own _ rfl _ _ _ 56 rfl 3 3 (Maps.int_keyed Tryd.underlying3) Tryd.underlying56 _ x31.heap.size cnt1 _ rfl hown1 HCM.out _ _ _ rfl rfl HKY.out _ [] (plainElem_int Tryd.underlying3 HWI.out) ?_; intro w6 hown6 hg6)
                    clear a0 b0
                    have hB6 := hB1.grown hg6 hB1.size (fun k e => by cases e; exact Nat.le_refl _)
                    first
                      | exact ⟨_, rfl, rfl, s.xs.length - (k + 1), by omega, by trivial, k + 1, cnt1 + 1, _, rfl, rfl, hlk, hB6, hown6, HD2⟩
                      | exact ⟨rfl, s.xs.length - (k + 1), by omega, k + 1, cnt1 + 1, _, rfl, rfl, hlk, hB6, hown6, HD2⟩
                      | exact ⟨_, rfl, rfl, s.xs.length - (k + 1), by omega, by trivial, k + 1, rfl, rfl, hlk, cnt1 + 1, _, hown6, HD2⟩
                      | exact ⟨rfl, s.xs.length - (k + 1), by omega, k + 1, rfl, rfl, hlk, cnt1 + 1, _, hown6, HD2⟩
                      | exact ⟨_, rfl, rfl, s.xs.length - (k + 1), by omega, by trivial, k + 1, rfl, rfl, hlk, hB6, cnt1 + 1, _, hown6, HD2⟩
                      | exact ⟨rfl, s.xs.length - (k + 1), by omega, k + 1, rfl, rfl, hlk, hB6, cnt1 + 1, _, hown6, HD2⟩
                  · obtain rfl : k = s.xs.length := by omega
                    have q0 : decide ((s.xs.length : Int) < (s.xs.length : Int)) = false := decide_eq_false (by omega)
                    have HD2 : Hid (AtD D1 (M.flatO 0 ((os.map (·.xs)).take (i + 1))) ∧ cnt1 ≤ 12 * (i + 1)) := Lib.hid ⟨by
                      rw [HTK.out]
                      have h := HD1.out.1
                      rw [List.take_of_length_le (by simp)] at h
                      exact h, by have := HD1.out.2; omega⟩
                    clear HD1
                    go_wp2_with fail
                    first
                      | exact ⟨_, rfl, rfl, os.length - (i + 1), by omega, by trivial, i + 1, cnt1, D1, rfl, rfl, hlt, hB1, hown1, HD2⟩
                      | exact ⟨rfl, os.length - (i + 1), by omega, i + 1, cnt1, D1, rfl, rfl, hlt, hB1, hown1, HD2⟩
                      | exact ⟨_, rfl, rfl, os.length - (i + 1), by omega, by trivial, i + 1, rfl, rfl, hlt, cnt1, D1, hown1, HD2⟩
                      | exact ⟨rfl, os.length - (i + 1), by omega, i + 1, rfl, rfl, hlt, cnt1, D1, hown1, HD2⟩
                · obtain rfl : i = os.length := by omega
                  have q0 : decide ((os.length : Int) < (os.length : Int)) = false := decide_eq_false (by omega)
                  have HAT : Hid (AtD D (M.flatO 0 (os.map (·.xs)))) := Lib.hid (by
                    have h := HD.out.1
                    rw [List.take_of_length_le (by simp)] at h
                    exact h)
                  clear HD HNX
                  replace lw := lw.next hB
                  replace g1 := g1.next hB
                  clear hB q0
                  go_wp2_with fail
                  refine wp_loop_mrg [19, 20, 168, 169, 170, 171, 172, 173, 174, 175, 176, 177, 178, 179, 180, 181, 182, 183, 184, 185, 186, 187, 188, 189, 190, 191, 192, 193, 194, 195, 196, 197, 198, 199, 200] (fun mm f ds W4 => ds = [] ∧ ∃ (i : Nat), f 19 = .int .i64 i ∧ mm = gs.length - i ∧ i ≤ gs.length ∧ Below W2.heap.size W2 W4) gs.length ⟨rfl, 0, rfl, rfl, Nat.zero_le _, Below.refl _ _⟩ ?_
                  intro c5' T5' hc2 hT2
                  rintro mm f ds W4 ⟨rfl, i, hf19, rfl, hi, hB⟩
                  replace hc2 := hc2.out
                  subst hc2
                  replace hT2 := hT2.out
                  subst hT2
                  generalize hF : mrgF _ 0 _ _ = F
                  simp only [mrg_hit, mrg_miss, mrg_end, Nat.reduceBEq, Nat.reduceAdd] at hF
                  rw [hf19] at hF
                  subst hF
                  by_cases hlt : i < gs.length
                  · have x0i : (0 : Int) ≤ (i : Int) := by omega
                    have x1i : (i : Int) < (gs.length : Int) := by omega
                    have q0i : decide ((i : Int) < (gs.length : Int)) = true := decide_eq_true x1i
                    have HGU : Hid (∀ W, Below W2.heap.size W2 W → ∃ lg, GA = some lg ∧ (lg.add i).block < W.heap.size ∧ W.cell? (lg.add i) = some (slcell gs[i] 0)) := Lib.hid (fun W hb => (g1.next hb).outer.one_at hlt)
                    have HGI : Hid (∀ W, Below W2.heap.size W2 W → Sl 1 icell W W.heap.size gs[i].A gs[i].xs) := Lib.hid (fun W hb => (g1.next hb).inner _ (List.getElem_mem hlt))
                    have HGX := Lib.hid (HGA.out i hlt)
                    have H512 := (HL2.out gs[i] (List.getElem_mem hlt)).1
                    have HGW := Lib.hid (HL2.out gs[i] (List.getElem_mem hlt)).2
                    generalize gs[i] = s at *
                    go_wp2_with fail
                    refine wp_loop_mrg [20, 174, 175, 176, 177, 178, 179, 180, 181, 182, 183, 184, 185, 186, 187, 188, 189, 190, 191, 192, 193, 194, 195, 196, 197, 198, 199, 200] (fun mm f ds W5 => ds = [] ∧ ∃ (k : Nat), f 20 = .int .i64 k ∧ mm = s.xs.length - k ∧ k ≤ s.xs.length ∧ Below W2.heap.size W2 W5) s.xs.length ⟨rfl, 0, rfl, rfl, Nat.zero_le _, hB⟩ ?_
                    clear hB
                    intro c6' T6' hc2 hT2
                    rintro mm f ds W5 ⟨rfl, k, hf20, rfl, hk, hB1⟩
                    replace hc2 := hc2.out
                    subst hc2
                    replace hT2 := hT2.out
                    subst hT2
                    generalize hF : mrgF _ 0 _ _ = F
                    simp only [mrg_hit, mrg_miss, mrg_end, Nat.reduceBEq, Nat.reduceAdd] at hF
                    rw [hf20] at hF
                    subst hF
                    obtain ⟨lg, hlg, -, a0⟩ := HGU.out W5 hB1
                    rw [show slcell s 0 = .slice s.A s.xs.length s.c from rfl] at a0
                    have HLA := Lib.hid hlg
                    subst hlg
                    by_cases hlk : k < s.xs.length
                    · have x0k : (0 : Int) ≤ (k : Int) := by omega
                      have x1k : (k : Int) < (s.xs.length : Int) := by omega
                      have q0k : decide ((k : Int) < (s.xs.length : Int)) = true := decide_eq_true x1k
                      have x2k : (0 : Int) < (s.xs.length : Int) := by omega
                      obtain ⟨lb, hlb, -, b0⟩ := (HGI.out W5 hB1).int_at hlk
                      obtain ⟨lb', hlb', -, b1⟩ := (HGI.out W5 hB1).int_at (k := 0) (show 0 < s.xs.length by omega)
                      obtain rfl : lb = lb' := by rw [hlb] at hlb'; exact Option.some.inj hlb'
                      rw [show lb.add 0 = lb from rfl] at b1
                      obtain ⟨x, y, hxl, hyl, hsm, ex, ey⟩ := HGX.out k hlk
                      have hs0 : 0 < s.xs.length := by omega
                      rw [List.getD_eq_getElem?_getD, List.getElem?_eq_getElem hlk, Option.getD_some] at ex
                      rw [List.getD_eq_getElem?_getD, List.getElem?_eq_getElem hs0, Option.getD_some] at ey
                      have hownW : W5.ownsMap Tryd.prog 3 (plainElem (H := Unit) Tryd.prog 3) x31.heap.size cnt D := hown.kept (below_grown hB1) (by simp)
                      obtain ⟨c1, hr1, hat1, -⟩ := hownW.drew.lookup_int (Maps.int_keyed Tryd.underlying3) Tryd.underlying56 Tryd.underlying3 (zeroIntG _) (Maps.keyOf_int_mk (P := Tryd.prog) Tryd.underlying3 (wf64 (HGW.out _ (List.getElem_mem hlk))))
                      obtain ⟨c2, hr2, hat2, -⟩ := hownW.drew.lookup_int (Maps.int_keyed Tryd.underlying3) Tryd.underlying56 Tryd.underlying3 (zeroIntG _) (Maps.keyOf_int_mk (P := Tryd.prog) Tryd.underlying3 (wf64 (HGW.out _ (List.getElem_mem hs0))))
                      have e1 := (HAT.out.hit _ (HST.out.1 x hxl)).2 (.lit (.int .i64 0))
                      have e2 := (HAT.out.hit _ (HST.out.1 y hyl)).2 (.lit (.int .i64 0))
                      have e3 := HST.out.2 x y hxl hyl hsm
                      dsimp only at e1 e2
                      rw [ex, e1] at hat1
                      rw [ey, e2] at hat2
                      have ec1 : ((M.setAt l (os.map (·.xs)) x : Nat) : Int) = c1 := by injection hat1 with h; injection h
                      have ec2 : ((M.setAt l (os.map (·.xs)) y : Nat) : Int) = c2 := by injection hat2 with h; injection h
                      obtain rfl : c1 = c2 := by rw [← ec1, ← ec2, e3]
                      clear e1 e2 e3 ec1 ec2 hat1 hat2 ex ey hsm hxl hyl hownW hlb'
                      generalize s.xs[k] = sx at *
                      generalize s.xs[0]'hs0 = s0 at *
                      rw [hlb] at a0
                      have HLB := Lib.hid hlb
                      clear hlb
                      have HR1 := Lib.hid hr1; have HR2 := Lib.hid hr2
                      clear hr1 hr2
                      go_wp2_with fail
                      refine holds_reg40 x0i x1i x0k x1k x2k a0 b0 b1 HR1.out HR2.out (by kernel_rfl) ?_
                      rintro z183 z184 z185 z186 z187 z188 z189 z190 z191 z192 z193 z194 z195 z196 z197 z198 z199 Yo rfl
                      have hB2 := hB1.drew
                      clear a0 b0 b1
                      go_wp2_with fail
                      first
                        | exact ⟨_, rfl, rfl, s.xs.length - (k + 1), by omega, by trivial, k + 1, rfl, rfl, hlk, hB2⟩
                        | exact ⟨rfl, s.xs.length - (k + 1), by omega, k + 1, rfl, rfl, hlk, hB2⟩
                    · obtain rfl : k = s.xs.length := by omega
                      have q0 : decide ((s.xs.length : Int) < (s.xs.length : Int)) = false := decide_eq_false (by omega)
                      go_wp2_with fail
                      first
                        | exact ⟨_, rfl, rfl, gs.length - (i + 1), by omega, by trivial, i + 1, rfl, rfl, hlt, hB1⟩
                        | exact ⟨rfl, gs.length - (i + 1), by omega, i + 1, rfl, rfl, hlt, hB1⟩
                        | exact ⟨_, rfl, rfl, gs.length - (i + 1), by omega, by trivial, i + 1, rfl, rfl, hlt⟩
                        | exact ⟨rfl, gs.length - (i + 1), by omega, i + 1, rfl, rfl, hlt⟩
                  · obtain rfl : i = gs.length := by omega
                    have q0 : decide ((gs.length : Int) < (gs.length : Int)) = false := decide_eq_false (by omega)
                    replace lw := lw.next hB
                    go_wp2_with fail
                    refine lw.known.mono ?_
                    rintro e x99 ⟨rfl, hb9⟩
                    go_wp2_with fail
                    go_ret
                    exact ⟨rfl, after_ lw.bel hb9⟩
          | true =>
            have HFN := Lib.hid (HRN.out.1 rfl)
            have kA := lw.free pc lc (some ⟨gb, 0, none⟩) l.length (fun _ => true) (Sl.of_own (by decide) r2) (by omega) (by omega)
            go_wp2_with fail
            refine kA.mono ?_
            rintro e x5 ⟨⟨r, rfl, hr⟩, hbx⟩
            have HRA := Lib.hid hr
            replace lw := lw.next hbx
            replace g1 := g1.next hbx
            replace hO := hO.next hbx
            clear hbx kA hr r2
            cases r with
            | false =>
              go_wp2_with fail
              refine wp_loop_mrg [15, 116, 117, 118, 119, 120, 121, 122, 123, 124, 125, 126, 127, 128] (fun mm f ds W1 => ds = [] ∧ W1 = x5 ∧ ∃ (i : Nat), f 15 = .int .i64 i ∧ mm = os.length - i ∧ i ≤ os.length ∧ Hid (∀ j (hj : j < os.length), j < i → os[j].xs.length ≤ 12)) os.length ⟨rfl, rfl, 0, rfl, rfl, Nat.zero_le _, Lib.hid (fun j _ h => absurd h (by omega))⟩ ?_
              intro c2' T2' hc2 hT2
              rintro mm f ds W1 ⟨rfl, hW0, i, hf15, rfl, hi, HI⟩
              replace hc2 := hc2.out
              subst hc2
              replace hT2 := hT2.out
              subst hT2
              generalize hF : mrgF _ 0 _ _ = F
              simp only [mrg_hit, mrg_miss, mrg_end, Nat.reduceBEq, Nat.reduceAdd] at hF
              rw [hf15] at hF
              subst hF
              subst hW0
              by_cases hlt : i < os.length
              · have x0i : (0 : Int) ≤ (i : Int) := by omega
                have x1i : (i : Int) < (os.length : Int) := by omega
                have q0i : decide ((i : Int) < (os.length : Int)) = true := decide_eq_true x1i
                obtain ⟨la, hla, hlb, a0⟩ := hO.outer.one_at hlt
                rw [show slcell os[i] 0 = .slice os[i].A os[i].xs.length os[i].c from rfl] at a0
                have HI2 : Hid (os[i].xs.length ≤ 12 → ∀ j (hj : j < os.length), j < i + 1 → os[j].xs.length ≤ 12) := Lib.hid (fun h j hj h2 => by
                  by_cases e : j = i
                  · subst e; exact h
                  · exact HI.out j hj (by omega))
                clear HI
                generalize os[i] = s at *
                have HLA := Lib.hid hla
                subst hla
                by_cases h12 : s.xs.length ≤ 12
                · have q1 : decide ((12 : Int) < (s.xs.length : Int)) = false := decide_eq_false (by omega)
                  have HI3 := Lib.hid (HI2.out h12)
                  clear HI2 h12
                  go_wp2_with fail
                  first
                    | exact ⟨_, rfl, rfl, os.length - (i + 1), by omega, by trivial, by trivial, i + 1, rfl, rfl, hlt, HI3⟩
                    | exact ⟨rfl, os.length - (i + 1), by omega, by trivial, i + 1, rfl, rfl, hlt, HI3⟩
                    | exact ⟨_, rfl, rfl, os.length - (i + 1), by omega, by trivial, i + 1, rfl, rfl, hlt, HI3⟩
                    | exact ⟨rfl, os.length - (i + 1), by omega, i + 1, rfl, rfl, hlt, HI3⟩
                · have q1 : decide ((12 : Int) < (s.xs.length : Int)) = true := decide_eq_true (by omega)
                  clear HI2 h12
                  go_wp2_with fail
                  refine lw.known.mono ?_
                  rintro e x99 ⟨rfl, hb9⟩
                  go_wp2_with fail
                  go_ret
                  exact ⟨rfl, after_ lw.bel hb9⟩
              · obtain rfl : i = os.length := by omega
                have q0 : decide ((os.length : Int) < (os.length : Int)) = false := decide_eq_false (by omega)
                have h12 : ∀ s ∈ os, s.xs.length ≤ 12 := fun s hs => by
                  obtain ⟨j, hj, rfl⟩ := List.getElem_of_mem hs
                  exact HI.out j hj hj
                have H12 := Lib.hid h12
                clear h12 HI
                have kL := lw.legal pc lc OA oc os hO (by omega) (fun s hs => ⟨by have := H12.out s hs; omega, HOI.out s hs⟩) (by omega) (by omega) HOK.out
                obtain ⟨lg, hlg⟩ : ∃ lg, M.legal ps l (os.map (·.xs)) = lg := ⟨_, rfl⟩
                rw [hlg] at kL
                have HLG := Lib.hid hlg
                clear hlg
                go_wp2_with fail
                clear q0
                refine kL.mono ?_
                rintro e x31 ⟨rfl, hbx⟩
                replace lw := lw.next hbx
                replace hO := hO.next hbx
                replace g1 := g1.next hbx
                clear hbx kL
                by_cases hl0 : lg = 0
                case neg =>
                  have q1 : (lg != 0) = true := by simpa using hl0
                  clear hl0
                  go_wp2_with fail
                  refine lw.known.mono ?_
                  rintro e x99 ⟨rfl, hb9⟩
                  go_wp2_with fail
                  go_ret
                  exact ⟨rfl, after_ lw.bel hb9⟩
                case pos =>
                  subst hl0
                  have q1 : ((0 : Int) != 0) = false := rfl
                  clear q1
                  have hmm : (Instr.makeMap 56 none).run Tryd.prog x31 = .ok (.map (some x31.heap.size)) (x31.alloc (.map #[] 0)) := by
                    simp [Instr.makeMap, Result.andThen]
                  obtain ⟨U, HU⟩ : ∃ U, Hid (x31.alloc (.map #[] 0) = U) := ⟨_, Lib.hid rfl⟩
                  have hU := HU.out
                  have hbU : Below x31.heap.size x31 U := by rw [← hU]; exact (Below.refl _ _).alloc (Nat.le_refl _) _
                  have hown : U.ownsMap Tryd.prog 3 (plainElem (H := Unit) Tryd.prog 3) x31.heap.size 0 (.map []) := by rw [← hU]; exact World.ownsMap_made _ _ _ _
                  go_wp2_with fail
                  clear hU hmm HU
                  have HNX := Lib.hid (fun i k (h : i < (os.map (fun x : SLc => x.xs)).length) (hk : k < ((os.map (fun x : SLc => x.xs))[i]).length) => M.flat_new (M.legal_nodup HOK.out HLG.out) h hk)
                  have HST := Lib.hid (M.legal_sets HOK.out HLG.out)
                  refine wp_loop_mrg [17, 18, 144, 145, 146, 147, 148, 149, 150, 151, 152, 153, 154, 155, 156, 157, 158, 159, 160, 161, 162, 163, 164, 165, 166, 167] (fun mm f ds W2 => ds = [] ∧ ∃ (i cnt : Nat) (D : DataW Unit), f 17 = .int .i64 i ∧ mm = os.length - i ∧ i ≤ os.length ∧ Below x31.heap.size x31 W2 ∧ W2.ownsMap Tryd.prog 3 (plainElem (H := Unit) Tryd.prog 3) x31.heap.size cnt D ∧ Hid (AtD D (M.flatO 0 ((os.map (·.xs)).take i)) ∧ cnt ≤ 12 * i)) os.length ⟨rfl, 0, 0, _, rfl, rfl, Nat.zero_le _, hbU, hown, Lib.hid ⟨AtD.start, Nat.le_refl _⟩⟩ ?_
                  clear hown hbU
                  intro c3' T3' hc2 hT2
                  rintro mm f ds W2 ⟨rfl, i, cnt, D, hf17, rfl, hi, hB, hown, HD⟩
                  replace hc2 := hc2.out
                  subst hc2
                  replace hT2 := hT2.out
                  subst hT2
                  generalize hF : mrgF _ 0 _ _ = F
                  simp only [mrg_hit, mrg_miss, mrg_end, Nat.reduceBEq, Nat.reduceAdd] at hF
                  rw [hf17] at hF
                  subst hF
                  by_cases hlt : i < os.length
                  · have x0i : (0 : Int) ≤ (i : Int) := by omega
                    have x1i : (i : Int) < (os.length : Int) := by omega
                    have q0i : decide ((i : Int) < (os.length : Int)) = true := decide_eq_true x1i
                    have HOU : Hid (∀ W, Below x31.heap.size x31 W → ∃ la, OA = some la ∧ (la.add i).block < W.heap.size ∧ W.cell? (la.add i) = some (slcell os[i] 0)) := Lib.hid (fun W hb => (hO.next hb).outer.one_at hlt)
                    have HIW : Hid (∀ W, Below x31.heap.size x31 W → Sl 1 icell W W.heap.size os[i].A os[i].xs) := Lib.hid (fun W hb => (hO.next hb).inner _ (List.getElem_mem hlt))
                    have H12i := H12.out os[i] (List.getElem_mem hlt)
                    have HOW := Lib.hid (HOI.out os[i] (List.getElem_mem hlt))
                    have HNI : Hid (∀ k (hk : k < os[i].xs.length), os[i].xs[k] ∉ (M.flatO 0 ((os.map (·.xs)).take i) ++ (os[i].xs.take k).map (fun st => (i, st))).map (·.2)) := Lib.hid (fun k hk => by
                      have h := HNX.out i k (by simpa using hlt) (by simpa using hk)
                      simpa using h)
                    have HTK : Hid (M.flatO 0 ((os.map (·.xs)).take (i + 1)) = M.flatO 0 ((os.map (·.xs)).take i) ++ os[i].xs.map (fun st => (i, st))) := Lib.hid (by rw [M.flatO_take (by simpa using hlt)]; simp)
                    generalize os[i] = s at *
                    generalize M.flatO 0 ((os.map (·.xs)).take i) = pf at *
                    have HD0 : Hid (AtD D (pf ++ (s.xs.map (fun st => (i, st))).take 0) ∧ cnt ≤ 12 * i + 0) := Lib.hid ⟨by simpa using HD.out.1, HD.out.2⟩
                    clear HD
                    go_wp2_with fail
                    refine wp_loop_mrg [18, 150, 151, 152, 153, 154, 155, 156, 157, 158, 159, 160, 161, 162, 163, 164, 165, 166, 167] (fun mm f ds W3 => ds = [] ∧ ∃ (k cnt : Nat) (D : DataW Unit), f 18 = .int .i64 k ∧ mm = s.xs.length - k ∧ k ≤ s.xs.length ∧ Below x31.heap.size x31 W3 ∧ W3.ownsMap Tryd.prog 3 (plainElem (H := Unit) Tryd.prog 3) x31.heap.size cnt D ∧ Hid (AtD D (pf ++ (s.xs.map (fun st => (i, st))).take k) ∧ cnt ≤ 12 * i + k)) s.xs.length ⟨rfl, 0, cnt, D, rfl, rfl, Nat.zero_le _, hB, hown, HD0⟩ ?_
                    clear hB hown HD0
                    intro c4' T4' hc2 hT2
                    rintro mm f ds W3 ⟨rfl, k, cnt1, D1, hf18, rfl, hk, hB1, hown1, HD1⟩
                    replace hc2 := hc2.out
                    subst hc2
                    replace hT2 := hT2.out
                    subst hT2
                    generalize hF : mrgF _ 0 _ _ = F
                    simp only [mrg_hit, mrg_miss, mrg_end, Nat.reduceBEq, Nat.reduceAdd] at hF
                    rw [hf18] at hF
                    subst hF
                    obtain ⟨la, hla, hlb, a0⟩ := HOU.out W3 hB1
                    rw [show slcell s 0 = .slice s.A s.xs.length s.c from rfl] at a0
                    have HLA := Lib.hid hla
                    subst hla
                    by_cases hlk : k < s.xs.length
                    · have x0k : (0 : Int) ≤ (k : Int) := by omega
                      have x1k : (k : Int) < (s.xs.length : Int) := by omega
                      have q0k : decide ((k : Int) < (s.xs.length : Int)) = true := decide_eq_true x1k
                      obtain ⟨lb, hlb1, hlb2, b0⟩ := (HIW.out W3 hB1).int_at hlk
                      have HKY : Hid (keyOf Tryd.prog 3 (.int .i64 s.xs[k]) = some (.int .i64 s.xs[k])) := Lib.hid (Maps.keyOf_int_mk (P := Tryd.prog) Tryd.underlying3 (wf64 (HOW.out _ (List.getElem_mem hlk))))
                      have HD2 : Hid (AtD (D1.put (.int .i64 s.xs[k]) (.lit (.int .i64 i))) (pf ++ (s.xs.map (fun st => (i, st))).take (k + 1)) ∧ cnt1 + 1 ≤ 12 * i + (k + 1)) := Lib.hid ⟨by
                        have h := HD1.out.1.put i s.xs[k] (by rw [← List.map_take]; exact HNI.out k hlk)
                        rw [← List.map_take] at h
                        rw [← List.map_take, List.take_succ_eq_append_getElem hlk, List.map_append, ← List.append_assoc]
                        exact h, by have := HD1.out.2; omega⟩
                      have HCM : Hid (cnt1 < maxLen) := Lib.hid (by have := HD1.out.2; unfold maxLen; omega)
                      have HWI : Hid ((Lit.int .i64 (i : Int)).wf = true) := Lib.hid (wf64 ⟨by omega, by omega⟩)
                      generalize s.xs[k] = st at *
                      rw [hlb1] at a0
                      have HLB := Lib.hid hlb1
                      clear hlb1 HD1
                      go_wp2_with (at_mapUpdate; refine wpList_mapUpdate_own _ rfl _ _ _ 56 rfl 3 3 (Maps.int_keyed Tryd.underlying3) Tryd.underlying56 _ x31.heap.size cnt1 _ rfl hown1 HCM.out _ _ _ rfl rfl HKY.out _ [] (plainElem_int Tryd.underlying3 HWI.out) ?_; intro w6 hown6 hg6)
                      clear a0 b0
                      have hB6 := hB1.grown hg6 hB1.size (fun k e => by cases e; exact Nat.le_refl _)
                      first
                        | exact ⟨_, rfl, rfl, s.xs.length - (k + 1), by omega, by trivial, k + 1, cnt1 + 1, _, rfl, rfl, hlk, hB6, hown6, HD2⟩
                        | exact ⟨rfl, s.xs.length - (k + 1), by omega, k + 1, cnt1 + 1, _, rfl, rfl, hlk, hB6, hown6, HD2⟩
                        | exact ⟨_, rfl, rfl, s.xs.length - (k + 1), by omega, by trivial, k + 1, rfl, rfl, hlk, cnt1 + 1, _, hown6, HD2⟩
                        | exact ⟨rfl, s.xs.length - (k + 1), by omega, k + 1, rfl, rfl, hlk, cnt1 + 1, _, hown6, HD2⟩
                        | exact ⟨_, rfl, rfl, s.xs.length - (k + 1), by omega, by trivial, k + 1, rfl, rfl, hlk, hB6, cnt1 + 1, _, hown6, HD2⟩
                        | exact ⟨rfl, s.xs.length - (k + 1), by omega, k + 1, rfl, rfl, hlk, hB6, cnt1 + 1, _, hown6, HD2⟩
                    · obtain rfl : k = s.xs.length := by omega
                      have q0 : decide ((s.xs.length : Int) < (s.xs.length : Int)) = false := decide_eq_false (by omega)
                      have HD2 : Hid (AtD D1 (M.flatO 0 ((os.map (·.xs)).take (i + 1))) ∧ cnt1 ≤ 12 * (i + 1)) := Lib.hid ⟨by
                        rw [HTK.out]
                        have h := HD1.out.1
                        rw [List.take_of_length_le (by simp)] at h
                        exact h, by have := HD1.out.2; omega⟩
                      clear HD1
                      go_wp2_with fail
                      first
                        | exact ⟨_, rfl, rfl, os.length - (i + 1), by omega, by trivial, i + 1, cnt1, D1, rfl, rfl, hlt, hB1, hown1, HD2⟩
                        | exact ⟨rfl, os.length - (i + 1), by omega, i + 1, cnt1, D1, rfl, rfl, hlt, hB1, hown1, HD2⟩
                        | exact ⟨_, rfl, rfl, os.length - (i + 1), by omega, by trivial, i + 1, rfl, rfl, hlt, cnt1, D1, hown1, HD2⟩
                        | exact ⟨rfl, os.length - (i + 1), by omega, i + 1, rfl, rfl, hlt, cnt1, D1, hown1, HD2⟩
                  · obtain rfl : i = os.length := by omega
                    have q0 : decide ((os.length : Int) < (os.length : Int)) = false := decide_eq_false (by omega)
                    have HAT : Hid (AtD D (M.flatO 0 (os.map (·.xs)))) := Lib.hid (by
                      have h := HD.out.1
                      rw [List.take_of_length_le (by simp)] at h
                      exact h)
                    clear HD HNX
                    replace lw := lw.next hB
                    replace g1 := g1.next hB
                    clear hB q0
                    go_wp2_with fail
                    refine wp_loop_mrg [19, 20, 168, 169, 170, 171, 172, 173, 174, 175, 176, 177, 178, 179, 180, 181, 182, 183, 184, 185, 186, 187, 188, 189, 190, 191, 192, 193, 194, 195, 196, 197, 198, 199, 200] (fun mm f ds W4 => ds = [] ∧ ∃ (i : Nat), f 19 = .int .i64 i ∧ mm = gs.length - i ∧ i ≤ gs.length ∧ Below W2.heap.size W2 W4) gs.length ⟨rfl, 0, rfl, rfl, Nat.zero_le _, Below.refl _ _⟩ ?_
                    intro c5' T5' hc2 hT2
                    rintro mm f ds W4 ⟨rfl, i, hf19, rfl, hi, hB⟩
                    replace hc2 := hc2.out
                    subst hc2
                    replace hT2 := hT2.out
                    subst hT2
                    generalize hF : mrgF _ 0 _ _ = F
                    simp only [mrg_hit, mrg_miss, mrg_end, Nat.reduceBEq, Nat.reduceAdd] at hF
                    rw [hf19] at hF
                    subst hF
                    by_cases hlt : i < gs.length
                    · have x0i : (0 : Int) ≤ (i : Int) := by omega
                      have x1i : (i : Int) < (gs.length : Int) := by omega
                      have q0i : decide ((i : Int) < (gs.length : Int)) = true := decide_eq_true x1i
                      have HGU : Hid (∀ W, Below W2.heap.size W2 W → ∃ lg, GA = some lg ∧ (lg.add i).block < W.heap.size ∧ W.cell? (lg.add i) = some (slcell gs[i] 0)) := Lib.hid (fun W hb => (g1.next hb).outer.one_at hlt)
                      have HGI : Hid (∀ W, Below W2.heap.size W2 W → Sl 1 icell W W.heap.size gs[i].A gs[i].xs) := Lib.hid (fun W hb => (g1.next hb).inner _ (List.getElem_mem hlt))
                      have HGX := Lib.hid (HGA.out i hlt)
                      have H512 := (HL2.out gs[i] (List.getElem_mem hlt)).1
                      have HGW := Lib.hid (HL2.out gs[i] (List.getElem_mem hlt)).2
                      generalize gs[i] = s at *
                      go_wp2_with fail
                      refine wp_loop_mrg [20, 174, 175, 176, 177, 178, 179, 180, 181, 182, 183, 184, 185, 186, 187, 188, 189, 190, 191, 192, 193, 194, 195, 196, 197, 198, 199, 200] (fun mm f ds W5 => ds = [] ∧ ∃ (k : Nat), f 20 = .int .i64 k ∧ mm = s.xs.length - k ∧ k ≤ s.xs.length ∧ Below W2.heap.size W2 W5) s.xs.length ⟨rfl, 0, rfl, rfl, Nat.zero_le _, hB⟩ ?_
                      clear hB
                      intro c6' T6' hc2 hT2
                      rintro mm f ds W5 ⟨rfl, k, hf20, rfl, hk, hB1⟩
                      replace hc2 := hc2.out
                      subst hc2
                      replace hT2 := hT2.out
                      subst hT2
                      generalize hF : mrgF _ 0 _ _ = F
                      simp only [mrg_hit, mrg_miss, mrg_end, Nat.reduceBEq, Nat.reduceAdd] at hF
                      rw [hf20] at hF
                      subst hF
                      obtain ⟨lg, hlg, -, a0⟩ := HGU.out W5 hB1
                      rw [show slcell s 0 = .slice s.A s.xs.length s.c from rfl] at a0
                      have HLA := Lib.hid hlg
                      subst hlg
                      by_cases hlk : k < s.xs.length
                      · have x0k : (0 : Int) ≤ (k : Int) := by omega
                        have x1k : (k : Int) < (s.xs.length : Int) := by omega
                        have q0k : decide ((k : Int) < (s.xs.length : Int)) = true := decide_eq_true x1k
                        have x2k : (0 : Int) < (s.xs.length : Int) := by omega
                        obtain ⟨lb, hlb, -, b0⟩ := (HGI.out W5 hB1).int_at hlk
                        obtain ⟨lb', hlb', -, b1⟩ := (HGI.out W5 hB1).int_at (k := 0) (show 0 < s.xs.length by omega)
                        obtain rfl : lb = lb' := by rw [hlb] at hlb'; exact Option.some.inj hlb'
                        rw [show lb.add 0 = lb from rfl] at b1
                        obtain ⟨x, y, hxl, hyl, hsm, ex, ey⟩ := HGX.out k hlk
                        have hs0 : 0 < s.xs.length := by omega
                        rw [List.getD_eq_getElem?_getD, List.getElem?_eq_getElem hlk, Option.getD_some] at ex
                        rw [List.getD_eq_getElem?_getD, List.getElem?_eq_getElem hs0, Option.getD_some] at ey
                        have hownW : W5.ownsMap Tryd.prog 3 (plainElem (H := Unit) Tryd.prog 3) x31.heap.size cnt D := hown.kept (below_grown hB1) (by simp)
                        obtain ⟨c1, hr1, hat1, -⟩ := hownW.drew.lookup_int (Maps.int_keyed Tryd.underlying3) Tryd.underlying56 Tryd.underlying3 (zeroIntG _) (Maps.keyOf_int_mk (P := Tryd.prog) Tryd.underlying3 (wf64 (HGW.out _ (List.getElem_mem hlk))))
                        obtain ⟨c2, hr2, hat2, -⟩ := hownW.drew.lookup_int (Maps.int_keyed Tryd.underlying3) Tryd.underlying56 Tryd.underlying3 (zeroIntG _) (Maps.keyOf_int_mk (P := Tryd.prog) Tryd.underlying3 (wf64 (HGW.out _ (List.getElem_mem hs0))))
                        have e1 := (HAT.out.hit _ (HST.out.1 x hxl)).2 (.lit (.int .i64 0))
                        have e2 := (HAT.out.hit _ (HST.out.1 y hyl)).2 (.lit (.int .i64 0))
                        have e3 := HST.out.2 x y hxl hyl hsm
                        dsimp only at e1 e2
                        rw [ex, e1] at hat1
                        rw [ey, e2] at hat2
                        have ec1 : ((M.setAt l (os.map (·.xs)) x : Nat) : Int) = c1 := by injection hat1 with h; injection h
                        have ec2 : ((M.setAt l (os.map (·.xs)) y : Nat) : Int) = c2 := by injection hat2 with h; injection h
                        obtain rfl : c1 = c2 := by rw [← ec1, ← ec2, e3]
                        clear e1 e2 e3 ec1 ec2 hat1 hat2 ex ey hsm hxl hyl hownW hlb'
                        generalize s.xs[k] = sx at *
                        generalize s.xs[0]'hs0 = s0 at *
                        rw [hlb] at a0
                        have HLB := Lib.hid hlb
                        clear hlb
                        have HR1 := Lib.hid hr1; have HR2 := Lib.hid hr2
                        clear hr1 hr2
                        go_wp2_with fail
                        refine holds_reg40 x0i x1i x0k x1k x2k a0 b0 b1 HR1.out HR2.out (by kernel_rfl) ?_
                        rintro z183 z184 z185 z186 z187 z188 z189 z190 z191 z192 z193 z194 z195 z196 z197 z198 z199 Yo rfl
                        have hB2 := hB1.drew
                        clear a0 b0 b1
                        go_wp2_with fail
                        first
                          | exact ⟨_, rfl, rfl, s.xs.length - (k + 1), by omega, by trivial, k + 1, rfl, rfl, hlk, hB2⟩
                          | exact ⟨rfl, s.xs.length - (k + 1), by omega, k + 1, rfl, rfl, hlk, hB2⟩
                      · obtain rfl : k = s.xs.length := by omega
                        have q0 : decide ((s.xs.length : Int) < (s.xs.length : Int)) = false := decide_eq_false (by omega)
                        go_wp2_with fail
                        first
                          | exact ⟨_, rfl, rfl, gs.length - (i + 1), by omega, by trivial, i + 1, rfl, rfl, hlt, hB1⟩
                          | exact ⟨rfl, gs.length - (i + 1), by omega, i + 1, rfl, rfl, hlt, hB1⟩
                          | exact ⟨_, rfl, rfl, gs.length - (i + 1), by omega, by trivial, i + 1, rfl, rfl, hlt⟩
                          | exact ⟨rfl, gs.length - (i + 1), by omega, i + 1, rfl, rfl, hlt⟩
                    · obtain rfl : i = gs.length := by omega
                      have q0 : decide ((gs.length : Int) < (gs.length : Int)) = false := decide_eq_false (by omega)
                      replace lw := lw.next hB
                      go_wp2_with fail
                      refine lw.known.mono ?_
                      rintro e x99 ⟨rfl, hb9⟩
                      go_wp2_with fail
                      go_ret
                      exact ⟨rfl, after_ lw.bel hb9⟩
            | true =>
              have HFA := Lib.hid (HRA.out.1 rfl)
              go_wp2_with fail
              refine (lw.steps pc lc GA gc gs g1 (by omega) (by omega) (by omega) (fun s hm => by have := (HL2.out s hm).1; omega)).mono ?_
              rintro e x21 ⟨⟨r, rfl, hr⟩, hbx⟩
              replace lw := lw.next hbx
              replace hO := hO.next hbx
              replace g1 := g1.next hbx
              clear hbx
              obtain rfl : r = true := hr.2 (fun c _ => M.legal_steps HOK.out HGL.out HFN.out HFA.out c)
              clear hr
              go_wp2_with fail
              refine wp_loop_mrg [15, 116, 117, 118, 119, 120, 121, 122, 123, 124, 125, 126, 127, 128] (fun mm f ds W1 => ds = [] ∧ W1 = x21 ∧ ∃ (i : Nat), f 15 = .int .i64 i ∧ mm = os.length - i ∧ i ≤ os.length ∧ Hid (∀ j (hj : j < os.length), j < i → os[j].xs.length ≤ 12)) os.length ⟨rfl, rfl, 0, rfl, rfl, Nat.zero_le _, Lib.hid (fun j _ h => absurd h (by omega))⟩ ?_
              intro c2' T2' hc2 hT2
              rintro mm f ds W1 ⟨rfl, hW0, i, hf15, rfl, hi, HI⟩
              replace hc2 := hc2.out
              subst hc2
              replace hT2 := hT2.out
              subst hT2
              generalize hF : mrgF _ 0 _ _ = F
              simp only [mrg_hit, mrg_miss, mrg_end, Nat.reduceBEq, Nat.reduceAdd] at hF
              rw [hf15] at hF
              subst hF
              subst hW0
              by_cases hlt : i < os.length
              · have x0i : (0 : Int) ≤ (i : Int) := by omega
                have x1i : (i : Int) < (os.length : Int) := by omega
                have q0i : decide ((i : Int) < (os.length : Int)) = true := decide_eq_true x1i
                obtain ⟨la, hla, hlb, a0⟩ := hO.outer.one_at hlt
                rw [show slcell os[i] 0 = .slice os[i].A os[i].xs.length os[i].c from rfl] at a0
                have HI2 : Hid (os[i].xs.length ≤ 12 → ∀ j (hj : j < os.length), j < i + 1 → os[j].xs.length ≤ 12) := Lib.hid (fun h j hj h2 => by
                  by_cases e : j = i
                  · subst e; exact h
                  · exact HI.out j hj (by omega))
                clear HI
                generalize os[i] = s at *
                have HLA := Lib.hid hla
                subst hla
                by_cases h12 : s.xs.length ≤ 12
                · have q1 : decide ((12 : Int) < (s.xs.length : Int)) = false := decide_eq_false (by omega)
                  have HI3 := Lib.hid (HI2.out h12)
                  clear HI2 h12
                  go_wp2_with fail
                  first
                    | exact ⟨_, rfl, rfl, os.length - (i + 1), by omega, by trivial, by trivial, i + 1, rfl, rfl, hlt, HI3⟩
                    | exact ⟨rfl, os.length - (i + 1), by omega, by trivial, i + 1, rfl, rfl, hlt, HI3⟩
                    | exact ⟨_, rfl, rfl, os.length - (i + 1), by omega, by trivial, i + 1, rfl, rfl, hlt, HI3⟩
                    | exact ⟨rfl, os.length - (i + 1), by omega, i + 1, rfl, rfl, hlt, HI3⟩
                · have q1 : decide ((12 : Int) < (s.xs.length : Int)) = true := decide_eq_true (by omega)
                  clear HI2 h12
                  go_wp2_with fail
                  refine lw.known.mono ?_
                  rintro e x99 ⟨rfl, hb9⟩
                  go_wp2_with fail
                  go_ret
                  exact ⟨rfl, after_ lw.bel hb9⟩
              · obtain rfl : i = os.length := by omega
                have q0 : decide ((os.length : Int) < (os.length : Int)) = false := decide_eq_false (by omega)
                have h12 : ∀ s ∈ os, s.xs.length ≤ 12 := fun s hs => by
                  obtain ⟨j, hj, rfl⟩ := List.getElem_of_mem hs
                  exact HI.out j hj hj
                have H12 := Lib.hid h12
                clear h12 HI
                have kL := lw.legal pc lc OA oc os hO (by omega) (fun s hs => ⟨by have := H12.out s hs; omega, HOI.out s hs⟩) (by omega) (by omega) HOK.out
                obtain ⟨lg, hlg⟩ : ∃ lg, M.legal ps l (os.map (·.xs)) = lg := ⟨_, rfl⟩
                rw [hlg] at kL
                have HLG := Lib.hid hlg
                clear hlg
                go_wp2_with fail
                clear q0
                refine kL.mono ?_
                rintro e x31 ⟨rfl, hbx⟩
                replace lw := lw.next hbx
                replace hO := hO.next hbx
                replace g1 := g1.next hbx
                clear hbx kL
                by_cases hl0 : lg = 0
                case neg =>
                  have q1 : (lg != 0) = true := by simpa using hl0
                  clear hl0
                  go_wp2_with fail
                  refine lw.known.mono ?_
                  rintro e x99 ⟨rfl, hb9⟩
                  go_wp2_with fail
                  go_ret
                  exact ⟨rfl, after_ lw.bel hb9⟩
                case pos =>
                  subst hl0
                  have q1 : ((0 : Int) != 0) = false := rfl
                  go_wp2_with fail
                  refine (lw.steps pc lc OA oc os hO (by omega) (by omega) (by omega) (fun s hs => by have := H12.out s hs; omega)).mono ?_
                  rintro e x41 ⟨⟨r, rfl, hr⟩, hbx⟩
                  replace lw := lw.next hbx
                  replace hO := hO.next hbx
                  replace g1 := g1.next hbx
                  clear hbx
                  obtain rfl : r = true := hr.2 (fun c _ => M.legal_steps HOK.out HLG.out HFN.out HFA.out c)
                  clear hr
                  clear q1
                  have hmm : (Instr.makeMap 56 none).run Tryd.prog x41 = .ok (.map (some x41.heap.size)) (x41.alloc (.map #[] 0)) := by
                    simp [Instr.makeMap, Result.andThen]
                  obtain ⟨U, HU⟩ : ∃ U, Hid (x41.alloc (.map #[] 0) = U) := ⟨_, Lib.hid rfl⟩
                  have hU := HU.out
                  have hbU : Below x41.heap.size x41 U := by rw [← hU]; exact (Below.refl _ _).alloc (Nat.le_refl _) _
                  have hown : U.ownsMap Tryd.prog 3 (plainElem (H := Unit) Tryd.prog 3) x41.heap.size 0 (.map []) := by rw [← hU]; exact World.ownsMap_made _ _ _ _
                  go_wp2_with fail
                  clear hU hmm HU
                  have HNX := Lib.hid (fun i k (h : i < (os.map (fun x : SLc => x.xs)).length) (hk : k < ((os.map (fun x : SLc => x.xs))[i]).length) => M.flat_new (M.legal_nodup HOK.out HLG.out) h hk)
                  have HST := Lib.hid (M.legal_sets HOK.out HLG.out)
                  refine wp_loop_mrg [17, 18, 144, 145, 146, 147, 148, 149, 150, 151, 152, 153, 154, 155, 156, 157, 158, 159, 160, 161, 162, 163, 164, 165, 166, 167] (fun mm f ds W2 => ds = [] ∧ ∃ (i cnt : Nat) (D : DataW Unit), f 17 = .int .i64 i ∧ mm = os.length - i ∧ i ≤ os.length ∧ Below x41.heap.size x41 W2 ∧ W2.ownsMap Tryd.prog 3 (plainElem (H := Unit) Tryd.prog 3) x41.heap.size cnt D ∧ Hid (AtD D (M.flatO 0 ((os.map (·.xs)).take i)) ∧ cnt ≤ 12 * i)) os.length ⟨rfl, 0, 0, _, rfl, rfl, Nat.zero_le _, hbU, hown, Lib.hid ⟨AtD.start, Nat.le_refl _⟩⟩ ?_
                  clear hown hbU
                  intro c3' T3' hc2 hT2
                  rintro mm f ds W2 ⟨rfl, i, cnt, D, hf17, rfl, hi, hB, hown, HD⟩
                  replace hc2 := hc2.out
                  subst hc2
                  replace hT2 := hT2.out
                  subst hT2
                  generalize hF : mrgF _ 0 _ _ = F
                  simp only [mrg_hit, mrg_miss, mrg_end, Nat.reduceBEq, Nat.reduceAdd] at hF
                  rw [hf17] at hF
                  subst hF
                  by_cases hlt : i < os.length
                  · have x0i : (0 : Int) ≤ (i : Int) := by omega
                    have x1i : (i : Int) < (os.length : Int) := by omega
                    have q0i : decide ((i : Int) < (os.length : Int)) = true := decide_eq_true x1i
                    have HOU : Hid (∀ W, Below x41.heap.size x41 W → ∃ la, OA = some la ∧ (la.add i).block < W.heap.size ∧ W.cell? (la.add i) = some (slcell os[i] 0)) := Lib.hid (fun W hb => (hO.next hb).outer.one_at hlt)
                    have HIW : Hid (∀ W, Below x41.heap.size x41 W → Sl 1 icell W W.heap.size os[i].A os[i].xs) := Lib.hid (fun W hb => (hO.next hb).inner _ (List.getElem_mem hlt))
                    have H12i := H12.out os[i] (List.getElem_mem hlt)
                    have HOW := Lib.hid (HOI.out os[i] (List.getElem_mem hlt))
                    have HNI : Hid (∀ k (hk : k < os[i].xs.length), os[i].xs[k] ∉ (M.flatO 0 ((os.map (·.xs)).take i) ++ (os[i].xs.take k).map (fun st => (i, st))).map (·.2)) := Lib.hid (fun k hk => by
                      have h := HNX.out i k (by simpa using hlt) (by simpa using hk)
                      simpa using h)
                    have HTK : Hid (M.flatO 0 ((os.map (·.xs)).take (i + 1)) = M.flatO 0 ((os.map (·.xs)).take i) ++ os[i].xs.map (fun st => (i, st))) := Lib.hid (by rw [M.flatO_take (by simpa using hlt)]; simp)
                    generalize os[i] = s at *
                    generalize M.flatO 0 ((os.map (·.xs)).take i) = pf at *
                    have HD0 : Hid (AtD D (pf ++ (s.xs.map (fun st => (i, st))).take 0) ∧ cnt ≤ 12 * i + 0) := Lib.hid ⟨by simpa using HD.out.1, HD.out.2⟩
                    clear HD
                    go_wp2_with fail
                    refine wp_loop_mrg [18, 150, 151, 152, 153, 154, 155, 156, 157, 158, 159, 160, 161, 162, 163, 164, 165, 166, 167] (fun mm f ds W3 => ds = [] ∧ ∃ (k cnt : Nat) (D : DataW Unit), f 18 = .int .i64 k ∧ mm = s.xs.length - k ∧ k ≤ s.xs.length ∧ Below x41.heap.size x41 W3 ∧ W3.ownsMap Tryd.prog 3 (plainElem (H := Unit) Tryd.prog 3) x41.heap.size cnt D ∧ Hid (AtD D (pf ++ (s.xs.map (fun st => (i, st))).take k) ∧ cnt ≤ 12 * i + k)) s.xs.length ⟨rfl, 0, cnt, D, rfl, rfl, Nat.zero_le _, hB, hown, HD0⟩ ?_
                    clear hB hown HD0
                    intro c4' T4' hc2 hT2
                    rintro mm f ds W3 ⟨rfl, k, cnt1, D1, hf18, rfl, hk, hB1, hown1, HD1⟩
                    replace hc2 := hc2.out
                    subst hc2
                    replace hT2 := hT2.out
                    subst hT2
                    generalize hF : mrgF _ 0 _ _ = F
                    simp only [mrg_hit, mrg_miss, mrg_end, Nat.reduceBEq, Nat.reduceAdd] at hF
                    rw [hf18] at hF
                    subst hF
                    obtain ⟨la, hla, hlb, a0⟩ := HOU.out W3 hB1
                    rw [show slcell s 0 = .slice s.A s.xs.length s.c from rfl] at a0
                    have HLA := Lib.hid hla
                    subst hla
                    by_cases hlk : k < s.xs.length
                    · have x0k : (0 : Int) ≤ (k : Int) := by omega
                      have x1k : (k : Int) < (s.xs.length : Int) := by omega
                      have q0k : decide ((k : Int) < (s.xs.length : Int)) = true := decide_eq_true x1k
                      obtain ⟨lb, hlb1, hlb2, b0⟩ := (HIW.out W3 hB1).int_at hlk
                      have HKY : Hid (keyOf Tryd.prog 3 (.int .i64 s.xs[k]) = some (.int .i64 s.xs[k])) := Lib.hid (Maps.keyOf_int_mk (P := Tryd.prog) Tryd.underlying3 (wf64 (HOW.out _ (List.getElem_mem hlk))))
                      have HD2 : Hid (AtD (D1.put (.int .i64 s.xs[k]) (.lit (.int .i64 i))) (pf ++ (s.xs.map (fun st => (i, st))).take (k + 1)) ∧ cnt1 + 1 ≤ 12 * i + (k + 1)) := Lib.hid ⟨by
                        have h := HD1.out.1.put i s.xs[k] (by rw [← List.map_take]; exact HNI.out k hlk)
                        rw [← List.map_take] at h
                        rw [← List.map_take, List.take_succ_eq_append_getElem hlk, List.map_append, ← List.append_assoc]
                        exact h, by have := HD1.out.2; omega⟩
                      have HCM : Hid (cnt1 < maxLen) := Lib.hid (by have := HD1.out.2; unfold maxLen; omega)
                      have HWI : Hid ((Lit.int .i64 (i : Int)).wf = true) := Lib.hid (wf64 ⟨by omega, by omega⟩)
                      generalize s.xs[k] = st at *
                      rw [hlb1] at a0
                      have HLB := Lib.hid hlb1
                      clear hlb1 HD1
                      go_wp2_with (at_mapUpdate; refine wpList_mapUpdate_own _ rfl _ _ _ 56 rfl 3 3 (Maps.int_keyed Tryd.underlying3) Tryd.underlying56 _ x41.heap.size cnt1 _ rfl hown1 HCM.out _ _ _ rfl rfl HKY.out _ [] (plainElem_int Tryd.underlying3 HWI.out) ?_; intro w6 hown6 hg6)
                      clear a0 b0
                      have hB6 := hB1.grown hg6 hB1.size (fun k e => by cases e; exact Nat.le_refl _)
                      first
                        | exact ⟨_, rfl, rfl, s.xs.length - (k + 1), by omega, by trivial, k + 1, cnt1 + 1, _, rfl, rfl, hlk, hB6, hown6, HD2⟩
                        | exact ⟨rfl, s.xs.length - (k + 1), by omega, k + 1, cnt1 + 1, _, rfl, rfl, hlk, hB6, hown6, HD2⟩
                        | exact ⟨_, rfl, rfl, s.xs.length - (k + 1), by omega, by trivial, k + 1, rfl, rfl, hlk, cnt1 + 1, _, hown6, HD2⟩
                        | exact ⟨rfl, s.xs.length - (k + 1), by omega, k + 1, rfl, rfl, hlk, cnt1 + 1, _, hown6, HD2⟩
                        | exact ⟨_, rfl, rfl, s.xs.length - (k + 1), by omega, by trivial, k + 1, rfl, rfl, hlk, hB6, cnt1 + 1, _, hown6, HD2⟩
                        | exact ⟨rfl, s.xs.length - (k + 1), by omega, k + 1, rfl, rfl, hlk, hB6, cnt1 + 1, _, hown6, HD2⟩
                    · obtain rfl : k = s.xs.length := by omega
                      have q0 : decide ((s.xs.length : Int) < (s.xs.length : Int)) = false := decide_eq_false (by omega)
                      have HD2 : Hid (AtD D1 (M.flatO 0 ((os.map (·.xs)).take (i + 1))) ∧ cnt1 ≤ 12 * (i + 1)) := Lib.hid ⟨by
                        rw [HTK.out]
                        have h := HD1.out.1
                        rw [List.take_of_length_le (by simp)] at h
                        exact h, by have := HD1.out.2; omega⟩
                      clear HD1
                      go_wp2_with fail
                      first
                        | exact ⟨_, rfl, rfl, os.length - (i + 1), by omega, by trivial, i + 1, cnt1, D1, rfl, rfl, hlt, hB1, hown1, HD2⟩
                        | exact ⟨rfl, os.length - (i + 1), by omega, i + 1, cnt1, D1, rfl, rfl, hlt, hB1, hown1, HD2⟩
                        | exact ⟨_, rfl, rfl, os.length - (i + 1), by omega, by trivial, i + 1, rfl, rfl, hlt, cnt1, D1, hown1, HD2⟩
                        | exact ⟨rfl, os.length - (i + 1), by omega, i + 1, rfl, rfl, hlt, cnt1, D1, hown1, HD2⟩
                  · obtain rfl : i = os.length := by omega
                    have q0 : decide ((os.length : Int) < (os.length : Int)) = false := decide_eq_false (by omega)
                    have HAT : Hid (AtD D (M.flatO 0 (os.map (·.xs)))) := Lib.hid (by
                      have h := HD.out.1
                      rw [List.take_of_length_le (by simp)] at h
                      exact h)
                    clear HD HNX
                    replace lw := lw.next hB
                    replace g1 := g1.next hB
                    clear hB q0
                    go_wp2_with fail
                    refine wp_loop_mrg [19, 20, 168, 169, 170, 171, 172, 173, 174, 175, 176, 177, 178, 179, 180, 181, 182, 183, 184, 185, 186, 187, 188, 189, 190, 191, 192, 193, 194, 195, 196, 197, 198, 199, 200] (fun mm f ds W4 => ds = [] ∧ ∃ (i : Nat), f 19 = .int .i64 i ∧ mm = gs.length - i ∧ i ≤ gs.length ∧ Below W2.heap.size W2 W4) gs.length ⟨rfl, 0, rfl, rfl, Nat.zero_le _, Below.refl _ _⟩ ?_
                    intro c5' T5' hc2 hT2
                    rintro mm f ds W4 ⟨rfl, i, hf19, rfl, hi, hB⟩
                    replace hc2 := hc2.out
                    subst hc2
                    replace hT2 := hT2.out
                    subst hT2
                    generalize hF : mrgF _ 0 _ _ = F
                    simp only [mrg_hit, mrg_miss, mrg_end, Nat.reduceBEq, Nat.reduceAdd] at hF
                    rw [hf19] at hF
                    subst hF
                    by_cases hlt : i < gs.length
                    · have x0i : (0 : Int) ≤ (i : Int) := by omega
                      have x1i : (i : Int) < (gs.length : Int) := by omega
                      have q0i : decide ((i : Int) < (gs.length : Int)) = true := decide_eq_true x1i
                      have HGU : Hid (∀ W, Below W2.heap.size W2 W → ∃ lg, GA = some lg ∧ (lg.add i).block < W.heap.size ∧ W.cell? (lg.add i) = some (slcell gs[i] 0)) := Lib.hid (fun W hb => (g1.next hb).outer.one_at hlt)
                      have HGI : Hid (∀ W, Below W2.heap.size W2 W → Sl 1 icell W W.heap.size gs[i].A gs[i].xs) := Lib.hid (fun W hb => (g1.next hb).inner _ (List.getElem_mem hlt))
                      have HGX := Lib.hid (HGA.out i hlt)
                      have H512 := (HL2.out gs[i] (List.getElem_mem hlt)).1
                      have HGW := Lib.hid (HL2.out gs[i] (List.getElem_mem hlt)).2
                      generalize gs[i] = s at *
                      go_wp2_with fail
                      refine wp_loop_mrg [20, 174, 175, 176, 177, 178, 179, 180, 181, 182, 183, 184, 185, 186, 187, 188, 189, 190, 191, 192, 193, 194, 195, 196, 197, 198, 199, 200] (fun mm f ds W5 => ds = [] ∧ ∃ (k : Nat), f 20 = .int .i64 k ∧ mm = s.xs.length - k ∧ k ≤ s.xs.length ∧ Below W2.heap.size W2 W5) s.xs.length ⟨rfl, 0, rfl, rfl, Nat.zero_le _, hB⟩ ?_
                      clear hB
                      intro c6' T6' hc2 hT2
                      rintro mm f ds W5 ⟨rfl, k, hf20, rfl, hk, hB1⟩
                      replace hc2 := hc2.out
                      subst hc2
                      replace hT2 := hT2.out
                      subst hT2
                      generalize hF : mrgF _ 0 _ _ = F
                      simp only [mrg_hit, mrg_miss, mrg_end, Nat.reduceBEq, Nat.reduceAdd] at hF
                      rw [hf20] at hF
                      subst hF
                      obtain ⟨lg, hlg, -, a0⟩ := HGU.out W5 hB1
                      rw [show slcell s 0 = .slice s.A s.xs.length s.c from rfl] at a0
                      have HLA := Lib.hid hlg
                      subst hlg
                      by_cases hlk : k < s.xs.length
                      · have x0k : (0 : Int) ≤ (k : Int) := by omega
                        have x1k : (k : Int) < (s.xs.length : Int) := by omega
                        have q0k : decide ((k : Int) < (s.xs.length : Int)) = true := decide_eq_true x1k
                        have x2k : (0 : Int) < (s.xs.length : Int) := by omega
                        obtain ⟨lb, hlb, -, b0⟩ := (HGI.out W5 hB1).int_at hlk
                        obtain ⟨lb', hlb', -, b1⟩ := (HGI.out W5 hB1).int_at (k := 0) (show 0 < s.xs.length by omega)
                        obtain rfl : lb = lb' := by rw [hlb] at hlb'; exact Option.some.inj hlb'
                        rw [show lb.add 0 = lb from rfl] at b1
                        obtain ⟨x, y, hxl, hyl, hsm, ex, ey⟩ := HGX.out k hlk
                        have hs0 : 0 < s.xs.length := by omega
                        rw [List.getD_eq_getElem?_getD, List.getElem?_eq_getElem hlk, Option.getD_some] at ex
                        rw [List.getD_eq_getElem?_getD, List.getElem?_eq_getElem hs0, Option.getD_some] at ey
                        have hownW : W5.ownsMap Tryd.prog 3 (plainElem (H := Unit) Tryd.prog 3) x41.heap.size cnt D := hown.kept (below_grown hB1) (by simp)
                        obtain ⟨c1, hr1, hat1, -⟩ := hownW.drew.lookup_int (Maps.int_keyed Tryd.underlying3) Tryd.underlying56 Tryd.underlying3 (zeroIntG _) (Maps.keyOf_int_mk (P := Tryd.prog) Tryd.underlying3 (wf64 (HGW.out _ (List.getElem_mem hlk))))
                        obtain ⟨c2, hr2, hat2, -⟩ := hownW.drew.lookup_int (Maps.int_keyed Tryd.underlying3) Tryd.underlying56 Tryd.underlying3 (zeroIntG _) (Maps.keyOf_int_mk (P := Tryd.prog) Tryd.underlying3 (wf64 (HGW.out _ (List.getElem_mem hs0))))
                        have e1 := (HAT.out.hit _ (HST.out.1 x hxl)).2 (.lit (.int .i64 0))
                        have e2 := (HAT.out.hit _ (HST.out.1 y hyl)).2 (.lit (.int .i64 0))
                        have e3 := HST.out.2 x y hxl hyl hsm
                        dsimp only at e1 e2
                        rw [ex, e1] at hat1
                        rw [ey, e2] at hat2
                        have ec1 : ((M.setAt l (os.map (·.xs)) x : Nat) : Int) = c1 := by injection hat1 with h; injection h
                        have ec2 : ((M.setAt l (os.map (·.xs)) y : Nat) : Int) = c2 := by injection hat2 with h; injection h
                        obtain rfl : c1 = c2 := by rw [← ec1, ← ec2, e3]
                        clear e1 e2 e3 ec1 ec2 hat1 hat2 ex ey hsm hxl hyl hownW hlb'
                        generalize s.xs[k] = sx at *
                        generalize s.xs[0]'hs0 = s0 at *
                        rw [hlb] at a0
                        have HLB := Lib.hid hlb
                        clear hlb
                        have HR1 := Lib.hid hr1; have HR2 := Lib.hid hr2
                        clear hr1 hr2
                        go_wp2_with fail
                        refine holds_reg40 x0i x1i x0k x1k x2k a0 b0 b1 HR1.out HR2.out (by kernel_rfl) ?_
                        rintro z183 z184 z185 z186 z187 z188 z189 z190 z191 z192 z193 z194 z195 z196 z197 z198 z199 Yo rfl
                        have hB2 := hB1.drew
                        clear a0 b0 b1
                        go_wp2_with fail
                        first
                          | exact ⟨_, rfl, rfl, s.xs.length - (k + 1), by omega, by trivial, k + 1, rfl, rfl, hlk, hB2⟩
                          | exact ⟨rfl, s.xs.length - (k + 1), by omega, k + 1, rfl, rfl, hlk, hB2⟩
                      · obtain rfl : k = s.xs.length := by omega
                        have q0 : decide ((s.xs.length : Int) < (s.xs.length : Int)) = false := decide_eq_false (by omega)
                        go_wp2_with fail
                        first
                          | exact ⟨_, rfl, rfl, gs.length - (i + 1), by omega, by trivial, i + 1, rfl, rfl, hlt, hB1⟩
                          | exact ⟨rfl, gs.length - (i + 1), by omega, i + 1, rfl, rfl, hlt, hB1⟩
                          | exact ⟨_, rfl, rfl, gs.length - (i + 1), by omega, by trivial, i + 1, rfl, rfl, hlt⟩
                          | exact ⟨rfl, gs.length - (i + 1), by omega, i + 1, rfl, rfl, hlt⟩
                    · obtain rfl : i = gs.length := by omega
                      have q0 : decide ((gs.length : Int) < (gs.length : Int)) = false := decide_eq_false (by omega)
                      replace lw := lw.next hB
                      go_wp2_with fail
                      refine lw.known.mono ?_
                      rintro e x99 ⟨rfl, hb9⟩
                      go_wp2_with fail
                      go_ret
                      exact ⟨rfl, after_ lw.bel hb9⟩
end Go.Proofs.YtceobfigfmnacaaDoor
end
