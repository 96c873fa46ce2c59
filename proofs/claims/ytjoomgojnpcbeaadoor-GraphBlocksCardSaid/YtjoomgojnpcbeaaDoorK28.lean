/- A bundle of texts: Re4, GeT, GeD, GeE, Re5, Re6. -/
import Derived.Test.YtjoomgojnpcbeaaDoorK12
import Derived.Test.YtjoomgojnpcbeaaDoorK17
import Derived.Test.YtjoomgojnpcbeaaDoorK02
section
namespace Go.Proofs.YtjoomgojnpcbeaaDoor
open Go Go.RowKit Gh
set_option maxRecDepth 100000
namespace Ge
theorem prt_len {E : List Ed} {vs : List Nat} {v : Nat} (hv : v ∈ vs) : (prt E vs v).length ≤ vs.length := by
  obtain ⟨k, h, -⟩ := bfs_inv (E := E) (vs.length + 1) 0 [v] (BfI.start hv) (by omega)
  exact h.len
theorem inp_len (vs p : List Nat) : (inp vs p).length ≤ vs.length := List.length_filter_le _ _
theorem compF_len {E : List Ed} {vs : List Nat} : ∀ k, k ≤ vs.length → (compF E vs (vs.take k)).1.length ≤ k ∧ (compF E vs (vs.take k)).2.length ≤ k * vs.length
  | 0, _ => ⟨Nat.zero_le _, Nat.zero_le _⟩
  | k + 1, hk => by
    obtain ⟨h1, h2⟩ := compF_len (E := E) (vs := vs) k (by omega)
    have h3 := prt_len (E := E) (List.getElem_mem (show k < vs.length by omega))
    rw [List.take_succ_eq_append_getElem (by omega), compF_snoc, Nat.add_mul, Nat.one_mul]
    unfold compS
    split
    · exact ⟨by omega, by omega⟩
    · rw [List.length_append, List.length_append, List.length_singleton]
      exact ⟨by omega, by omega⟩
theorem inp_snoc (l p : List Nat) (x : Nat) : inp (l ++ [x]) p = if x ∈ p then inp l p ++ [x] else inp l p := by
  unfold inp
  rw [List.filter_append]
  split
  · next h => simp [h]
  · next h => simp [h]
end Ge
structure CmS (w W : World) (vO vS : Value) (ls : List SLc) (seen : List Nat) : Prop where
  bel : Below w.heap.size w W
  lo : LO W w.heap.size vO ls
  os : W.ownsRow w.heap.size 3 1 vS seen.length (flat 1 icell (bsl seen))
  ap : ∀ s ∈ ls, ∀ q, (Value.slice s.A s.xs.length s.c).ownBlock = some q → vS.ownBlock ≠ some q
section
variable {w W W' : World} {vO vS : Value} {ls : List SLc} {seen : List Nat}
theorem CmS.app (h : CmS w W vO vS ls seen) {v' : Value} {ys : List Nat} (ho : W'.ownsRow w.heap.size 3 1 v' (seen.length + ys.length) (flat 1 icell (bsl seen) ++ flat 1 icell (bsl ys))) (hg : W.grownBy W' vS.ownBlock) (hat : v'.ownBlock = vS.ownBlock ∨ v'.ownBlock = some W.heap.size) : CmS w W' vO v' ls (seen ++ ys) := by
  refine ⟨h.bel.grown hg h.bel.size (fun q e => (h.os.lt q e).1), ⟨h.lo.outer.kept hg (own_ne h.lo.outer h.os (by decide)), fun s hs => (h.lo.inner s hs).kept hg ?_⟩, ?_, fun s hs q e => ?_⟩
  · cases hq : (Value.slice s.A s.xs.length s.c).ownBlock with
    | none => exact .inl rfl
    | some q => exact .inr (fun e => h.ap s hs q hq e.symm)
  · rw [List.length_append, show bsl (seen ++ ys) = bsl seen ++ bsl ys from List.map_append, flat_append]
    exact ho
  · rcases hat with h1 | h1
    · rw [h1]; exact h.ap s hs q e
    · rw [h1]
      intro e2
      have := ((h.lo.inner s hs).lt q e).2
      have := Option.some.inj e2
      omega
theorem CmS.next (h : CmS w W vO vS ls seen) (hb : Below W.heap.size W W') : CmS w W' vO vS ls seen := ⟨after_ h.bel hb, h.lo.below hb, own_below h.os hb, h.ap⟩
end
set_option maxHeartbeats 64000000 in
theorem rComps_ok (EA : Option Addr) (ec : Nat) (E : List Ge.Ed) (VA : Option Addr) (vc : Nat) (vs : List Nat) (w : World) (hE : Sl 2 ecell w w.heap.size EA E) (hEl : E.length ≤ 1000000) (hV : Sl 1 icell w w.heap.size VA (bsl vs)) (hvl : vs.length ≤ 1000) :
    Calls Tryd.prog 15 #[.slice EA E.length ec, .slice VA vs.length vc] w fun e w' => ∃ (v : Value) (ls : List SLc), e = .returned v ∧ LO w' w.heap.size v ls ∧ ls.map (·.xs) = (Ge.comps E vs).map bsl ∧ Below w.heap.size w w' := by
  obtain ⟨i0, hi, hz0, hz1, hz2⟩ := info_parts intInfoD
  have Hi := Lib.hid hi; have Hz0 := Lib.hid hz0; have Hz1 := Lib.hid hz1; have Hz2 := Lib.hid hz2
  obtain ⟨il, hil, hzl0, hzl1, hzl2⟩ := info_parts slInfo
  have Hil := Lib.hid hil; have Hzl0 := Lib.hid hzl0; have Hzl1 := Lib.hid hzl1; have Hzl2 := Lib.hid hzl2
  clear hi hz0 hz1 hz2 hil hzl0 hzl1 hzl2
  have st0 : CmS w w (.slice none 0 0) (.slice none 0 0) [] (Ge.compF E vs (vs.take 0)).2 := ⟨Below.refl _ _, LO.none_ _ _, own_nil _ _ _ 1 icell, fun s h => absurd h (by simp)⟩
  go_enter Tryd.func15, Tryd.ntmps15
  go_wp2_with fail
  refine wp_loop_mrg [5, 6, 7, 8, 9, 10, 11, 12, 13, 14, 15, 16, 17, 18, 19, 20, 21, 22, 23, 24, 25, 26, 27, 28, 29, 30, 31, 32, 33, 34, 35, 36, 37, 38, 39, 40, 41, 42, 43, 44, 45, 46, 47, 48, 49, 50, 51, 52, 53, 54, 55, 56, 57, 58, 59, 60, 61, 62, 63, 64, 65, 66, 67, 68, 69, 70, 71, 72, 73, 74, 75, 76, 77, 78, 79, 80, 81, 82, 83, 84, 85, 86, 87, 88, 89] (fun mm f ds W0 => ds = [] ∧ ∃ (k : Nat) (ls : List SLc), f 7 = .int .i64 k ∧ vs.length - k = mm ∧ k ≤ vs.length ∧ CmS w W0 (f 5) (f 6) ls (Ge.compF E vs (vs.take k)).2 ∧ ls.map (·.xs) = (Ge.compF E vs (vs.take k)).1.map bsl) vs.length ⟨rfl, 0, [], rfl, rfl, Nat.zero_le _, st0, rfl⟩ ?_
  clear st0
  intro c1' T1' hc2 hT2
  rintro mm f ds W0 ⟨rfl, k, ls, hf7, rfl, hk, st, hls⟩
  replace hc2 := hc2.out
  subst hc2
  replace hT2 := hT2.out
  subst hT2
  generalize hF : mrgF _ 0 _ _ = F
  simp only [mrg_hit, mrg_miss, mrg_end, Nat.reduceBEq, Nat.reduceAdd] at hF
  rw [hf7] at hF
  subst hF
  clear hf7
  generalize f 5 = vO at *
  generalize f 6 = vS at *
  have hV0 := (hV.below st.bel).more st.bel.size
  have hE0 := (hE.below st.bel).more st.bel.size
  obtain ⟨hc1, hc2⟩ := Ge.compF_len (E := E) (vs := vs) k hk
  by_cases hkl : k < vs.length
  · have x0 : (0 : Int) ≤ (k : Int) := by omega
    have x1 : (k : Int) < (vs.length : Int) := by omega
    have q0 : decide ((k : Int) < (vs.length : Int)) = true := decide_eq_true x1
    obtain ⟨la, hla, hlb, a0⟩ := hV0.nat_at hkl
    have hvm : vs[k] ∈ vs := List.getElem_mem hkl
    have HNX : Hid (Ge.compF E vs (vs.take (k + 1)) = Ge.compS E vs (Ge.compF E vs (vs.take k)) vs[k]) := Lib.hid (by rw [List.take_succ_eq_append_getElem hkl, Ge.compF_snoc])
    obtain ⟨v, hv⟩ : ∃ v, vs[k] = v := ⟨_, rfl⟩
    rw [hv] at a0 HNX hvm
    have HV := Lib.hid hv
    have hc2 : (Ge.compF E vs (vs.take k)).2.length ≤ 1000000 := by
      have := Nat.mul_le_mul (show k ≤ 1000 by omega) hvl
      omega
    clear hv
    generalize Ge.compF E vs (vs.take k) = cs at *
    obtain ⟨cs, seen⟩ := cs
    dsimp only at st hls hc1 hc2
    have HLS := Lib.hid hls
    have hll : ls.length ≤ 1000 := by
      have := congrArg List.length hls
      rw [List.length_map, List.length_map] at this
      omega
    clear hls hc1
    obtain ⟨SA, sc, rfl, hS⟩ : ∃ A c, vS = .slice A seen.length c ∧ Sl 1 icell W0 W0.heap.size A (bsl seen) := by
      have h2 := st.os
      rw [← bsl_len] at h2
      obtain ⟨A, c, e, h3⟩ := own_slice (by decide) h2
      exact ⟨A, c, by rw [e, bsl_len], h3⟩
    have kI := rIn_ok SA sc seen v W0 hS hc2
    subst hla
    by_cases hm : v ∈ seen
    · rw [decide_eq_true hm] at kI
      have HN2 : Hid (Ge.compF E vs (vs.take (k + 1)) = (cs, seen)) := Lib.hid (by rw [HNX.out]; unfold Ge.compS; rw [if_pos hm])
      clear HNX hm
      go_wp2_with fail
      refine kI.mono ?_
      rintro e w2 ⟨rfl, rfl⟩
      go_wp2_with fail
      exact ⟨_, rfl, rfl, vs.length - (k + 1), by omega, by trivial, k + 1, ls, rfl, rfl, hkl, by rw [HN2.out]; exact st, by rw [HN2.out]; exact HLS.out⟩
    rw [decide_eq_false hm] at kI
    have HN2 : Hid (Ge.compF E vs (vs.take (k + 1)) = (cs ++ [Ge.inp vs (Ge.prt E vs v)], seen ++ Ge.prt E vs v)) := Lib.hid (by rw [HNX.out]; unfold Ge.compS; rw [if_neg hm])
    have hpl := Ge.prt_len (E := E) hvm
    obtain ⟨P, hP⟩ : ∃ P, Ge.prt E vs v = P := ⟨_, rfl⟩
    rw [hP] at HN2 hpl
    have HP : Hid (Ge.bfs E vs (vs.length + 1) 0 [v] = P) := Lib.hid hP
    have BI0 := Lib.hid (Ge.BfI.start (E := E) hvm)
    obtain ⟨U, HU, xU, hbU, hsU⟩ := boxes1 W0 #[.int .i64 (v : Int)] 3
    have HSU := Lib.hid hsU
    have hU := HU.out
    have oU := own_one xU (Nat.le_refl _)
    clear HNX hm hvm hP hsU
    go_wp2_with fail
    refine kI.mono ?_
    rintro e w2 ⟨rfl, rfl⟩
    obtain ⟨la2, hla2, -, a2⟩ := hV0.nat_at hkl
    obtain rfl := Option.some.inj hla2
    rw [HV.out] at a2
    go_wp2_with fail
    clear hU HU kI a0 a2 xU
    refine wp_loop_mrg [8, 9, 10, 11, 31, 32, 33, 34, 35, 36, 37, 38, 39, 40, 41, 42, 43, 44, 45, 46, 47, 48, 49, 50, 51, 52, 53, 54, 55, 56, 57, 58, 59, 60, 61, 62, 63] (fun mm f ds W1 => ds = [] ∧ ∃ (j gp pc : Nat) (p : List Nat), f 9 = .int .i64 j ∧ f 8 = .slice (some ⟨gp, 0, none⟩) p.length pc ∧ vs.length + 1 - j = mm ∧ j ≤ p.length ∧ Hid (Ge.BfI E vs v j p) ∧ Hid (Ge.bfs E vs (vs.length + 1 - j) j p = P) ∧ Below W0.heap.size W0 W1 ∧ W1.ownsRow W0.heap.size 3 1 (.slice (some ⟨gp, 0, none⟩) p.length pc) p.length (flat 1 icell (bsl p))) (vs.length + 1 - 0) ⟨rfl, 0, W0.heap.size, 1, [v], rfl, rfl, rfl, Nat.zero_le _, BI0, HP, hbU, oU⟩ ?_
    clear oU hbU HP BI0
    intro c2' T2' hc2 hT2
    rintro mm f ds W1 ⟨rfl, j, gp, pc, p, hf9, hf8, rfl, hj, HB, HQ, hB1, ownP⟩
    replace hc2 := hc2.out
    subst hc2
    replace hT2 := hT2.out
    subst hT2
    generalize hF : mrgF _ 0 _ _ = F
    simp only [mrg_hit, mrg_miss, mrg_end, Nat.reduceBEq, Nat.reduceAdd] at hF
    rw [hf9, hf8] at hF
    subst hF
    clear hf9 hf8
    have hpn := HB.out.len
    have hSP := own_sl ownP
    have hV1 := (hV0.below hB1).more hB1.size
    have hE1 := (hE0.below hB1).more hB1.size
    by_cases hjl : j < p.length
    · have y0 : (0 : Int) ≤ (j : Int) := by omega
      have y1 : (j : Int) < (p.length : Int) := by omega
      have q1 : decide ((j : Int) < (p.length : Int)) = true := decide_eq_true y1
      obtain ⟨lp, hlp, -, b0⟩ := hSP.nat_at hjl
      have HB2 := Lib.hid (HB.out.next hjl)
      have HQ2 : Hid (Ge.bfs E vs (vs.length + 1 - (j + 1)) (j + 1) (Ge.grow (Ge.nbr E p[j] vs) p) = P) := Lib.hid (by
        have h1 := HQ.out
        rw [show vs.length + 1 - j = (vs.length + 1 - (j + 1)) + 1 by omega, Ge.bfs_next _ hjl] at h1
        exact h1)
      have hgl := HB2.out.len
      have hnl : (Ge.nbr E p[j] vs).length ≤ vs.length := List.length_filter_le _ _
      obtain ⟨u, hu⟩ : ∃ u, p[j] = u := ⟨_, rfl⟩
      rw [hu] at b0 HB2 HQ2 hgl hnl
      clear hu HB HQ
      have kN := rNbr_ok EA ec E (some la) vc vs u W1 hE1 hEl hV1 (by omega)
      generalize Ge.nbr E u vs = nx at *
      obtain rfl := Option.some.inj hlp
      rw [add_base] at b0
      go_wp2_with fail
      clear b0
      refine kN.mono ?_
      rintro e w3 ⟨NA, nc, rfl, ownN, hb3⟩
      have ownP3 := own_below ownP hb3
      have hB3 := hB1.trans (hb3.mono hB1.size)
      have hgpW : gp < W1.heap.size := (ownP.lt gp rfl).2
      have hap : ∀ q, (Value.slice NA nx.length nc).ownBlock = some q → q ≠ gp := fun q e => by have := (ownN.lt q e).1; omega
      clear kN ownP hSP hV1 hE1 hb3 hB1
      go_wp2_with fail
      refine wp_loop_mrg [8, 11, 44, 45, 46, 47, 48, 49, 50, 51, 52, 53, 54, 55, 56, 57, 58, 59, 60, 61, 62, 63] (fun mm f ds W2 => ds = [] ∧ ∃ (m gp pc : Nat) (p' : List Nat), f 11 = .int .i64 m ∧ f 8 = .slice (some ⟨gp, 0, none⟩) p'.length pc ∧ nx.length - m = mm ∧ m ≤ nx.length ∧ Hid (Ge.grow (nx.take m) p = p') ∧ Below W0.heap.size W0 W2 ∧ W2.ownsRow W0.heap.size 3 1 (.slice (some ⟨gp, 0, none⟩) p'.length pc) p'.length (flat 1 icell (bsl p')) ∧ W2.ownsRow W1.heap.size 3 1 (.slice NA nx.length nc) nx.length (flat 1 icell (bsl nx)) ∧ (∀ q, (Value.slice NA nx.length nc).ownBlock = some q → q ≠ gp) ∧ p'.length ≤ p.length + m) nx.length ⟨rfl, 0, gp, pc, p, rfl, rfl, rfl, Nat.zero_le _, Lib.hid rfl, hB3, ownP3, ownN, hap, Nat.le_refl _⟩ ?_
      clear hB3 ownP3 ownN hap
      intro c4' T4' hc2 hT2
      rintro mm f ds W2 ⟨rfl, m, gp, pc, p', hf11, hf8, rfl, hm, HG, hB2, ownP, ownN, hap, hpl'⟩
      replace hc2 := hc2.out
      subst hc2
      replace hT2 := hT2.out
      subst hT2
      generalize hF : mrgF _ 0 _ _ = F
      simp only [mrg_hit, mrg_miss, mrg_end, Nat.reduceBEq, Nat.reduceAdd] at hF
      rw [hf11, hf8] at hF
      subst hF
      clear hf11 hf8
      have hSP := own_sl ownP
      have hSN := own_sl ownN
      by_cases hml : m < nx.length
      · have z0 : (0 : Int) ≤ (m : Int) := by omega
        have z1 : (m : Int) < (nx.length : Int) := by omega
        have q2 : decide ((m : Int) < (nx.length : Int)) = true := decide_eq_true z1
        obtain ⟨ln, hln, -, n0⟩ := hSN.nat_at hml
        have HG2 : Hid (Ge.grow (nx.take (m + 1)) p = if nx[m] ∈ p' then p' else p' ++ [nx[m]]) := Lib.hid (by rw [List.take_succ_eq_append_getElem hml, Ge.grow_snoc, HG.out])
        obtain ⟨x, hx⟩ : ∃ x, nx[m] = x := ⟨_, rfl⟩
        rw [hx] at n0 HG2
        clear hx HG
        have kI := rIn_ok (some ⟨gp, 0, none⟩) pc p' x W2 hSP (by omega)
        obtain rfl : NA = some ln := hln
        by_cases hm2 : x ∈ p'
        · rw [decide_eq_true hm2] at kI
          have HG3 : Hid (Ge.grow (nx.take (m + 1)) p = p') := Lib.hid (by rw [HG2.out, if_pos hm2])
          clear HG2 hm2
          go_wp2_with fail
          refine kI.mono ?_
          rintro e w4 ⟨rfl, rfl⟩
          go_wp2_with fail
          exact ⟨_, rfl, rfl, nx.length - (m + 1), by omega, by trivial, m + 1, gp, pc, p', rfl, rfl, rfl, hml, HG3, hB2, ownP, ownN, hap, by omega⟩
        · rw [decide_eq_false hm2] at kI
          have HG3 : Hid (Ge.grow (nx.take (m + 1)) p = p' ++ [x]) := Lib.hid (by rw [HG2.out, if_neg hm2])
          clear HG2 hm2
          have hbs := hB2.size
          go_wp2_with fail
          refine kI.mono ?_
          rintro e w4 ⟨rfl, rfl⟩
          go_wp2_with (at_builtin; go_loud (
            refine wpList_push_at (cell := icell) (y := ((x : Nat) : Int)) rfl _ _ _ rfl W0.heap.size 3 i0 _ 8 Tryd.underlying31 Hi.out Hz0.out Hz1.out Hz2.out rfl (by decide) _ _ _ rfl ownP _ _ rfl _ rfl (fun _ => rfl) (by unfold maxLen; omega) (by omega) hbs ?_
            intro v8 w8 hown8 hg8 hat8))
          obtain ⟨g8, cap8, rfl⟩ := ownsRow_succ hown8
          have hB8 := hB2.grown hg8 hbs (fun q e => (ownP.lt q e).1)
          have ownN8 := ownN.kept hg8 (by
            cases hq : (Value.slice (some ln) nx.length nc).ownBlock with
            | none => exact .inl rfl
            | some q => exact .inr (fun e => hap q hq (Option.some.inj e)))
          have hap8 : ∀ q, (Value.slice (some ln) nx.length nc).ownBlock = some q → q ≠ g8 := fun q e => by
            rcases hat8 with h | h
            · have h2 : g8 = gp := Option.some.inj h
              rw [h2]
              exact hap q e
            · have := h g8 rfl
              have := (ownN.lt q e).2
              omega
          exact ⟨_, rfl, rfl, nx.length - (m + 1), by omega, by trivial, m + 1, g8, cap8, p' ++ [x], rfl, by rw [List.length_append]; rfl, rfl, hml, HG3, hB8, by rw [List.length_append, bsl_snoc]; exact hown8, ownN8, hap8, by rw [List.length_append]; simp only [List.length_singleton]; omega⟩
      · obtain rfl : m = nx.length := by omega
        have q2 : decide ((nx.length : Int) < (nx.length : Int)) = false := decide_eq_false (by omega)
        rw [List.take_length] at HG
        rw [HG.out] at HB2 HQ2
        have hjg : j + 1 ≤ p'.length := by
          obtain ⟨q, hq⟩ := Ge.grow_pre nx p
          rw [← HG.out, hq, List.length_append]; omega
        go_wp2_with fail
        exact ⟨_, rfl, rfl, vs.length + 1 - (j + 1), by omega, by trivial, j + 1, gp, pc, p', rfl, rfl, rfl, hjg, HB2, HQ2, hB2, ownP⟩
    · obtain rfl : j = p.length := by omega
      have q1 : decide ((p.length : Int) < (p.length : Int)) = false := decide_eq_false (by omega)
      have hpP : p = P := by rw [← HQ.out]; exact (Ge.bfs_end _ (by omega)).symm
      subst hpP
      have st1 := st.next hB1
      have hgp := ownP.lt gp rfl
      have hbw := st1.bel.size
      have hnews : ∀ (q : Nat) (x : Value), (flat 1 icell (bsl p))[q]? = some x → W1.cell? ((⟨gp, 0, none⟩ : Addr).add q) = some x := fun q x hx => by
        exact ownP.cells (g := gp) rfl q x hx
      have HNW := Lib.hid hnews
      have hfl : (flat 1 icell (bsl p)).length = p.length * 1 := by rw [flat_length, bsl_len]
      have HFL := Lib.hid hfl
      clear hnews hfl HB HQ
      have HVS : Hid (∀ q, (Value.slice SA seen.length sc).ownBlock = some q → q < W0.heap.size) := Lib.hid (fun q e => (st.os.lt q e).2)
      obtain ⟨vS, hvS⟩ : ∃ vS, Value.slice SA seen.length sc = vS := ⟨_, rfl⟩
      rw [hvS] at st1 HVS ⊢
      clear hvS
      go_wp2_with (at_builtin; go_loud (
        refine wpList_append_own_at _ rfl _ _ _ rfl w.heap.size 3 i0 _ 1 8 Tryd.underlying31 Hi.out Hz0.out Hz1.out Hz2.out rfl (by decide) _ _ _ rfl st1.os ⟨gp, 0, none⟩ p.length pc (flat 1 icell (bsl p)) rfl HFL.out HNW.out (fun x hx => by
          unfold flat at hx
          obtain ⟨y, _, hy⟩ := List.mem_flatMap.1 hx
          obtain ⟨j, _, rfl⟩ := List.mem_map.1 hy
          rfl) (by unfold maxLen; omega) (by omega) hbw ?_
        intro v7 w7 hown7 hg7 _ hat7))
      have st7 := st1.app hown7 hg7 hat7
      have oP7 := ownP.kept hg7 (own_apart ownP HVS.out)
      have hSP7 := own_sl oP7
      have hV7 := (hV.below st7.bel).more st7.bel.size
      have hbw7 := st7.bel.size
      have hVS7 : ∀ q, v7.ownBlock = some q → q < w7.heap.size := fun q e => (st7.os.lt q e).2
      have HVS7 := Lib.hid hVS7
      clear hown7 hg7 hat7 st1 oP7 ownP HNW HFL hSP hV1 hE1 hB1 hVS7
      refine wp_loop_mrg [12, 13, 67, 68, 69, 70, 71, 72, 73, 74, 75, 76, 77, 78, 79, 80, 81, 82, 83, 84, 85] (fun mm f ds W3 => ds = [] ∧ ∃ (k2 : Nat), f 13 = .int .i64 k2 ∧ vs.length - k2 = mm ∧ k2 ≤ vs.length ∧ Below w7.heap.size w7 W3 ∧ W3.ownsRow w7.heap.size 3 1 (f 12) (Ge.inp (vs.take k2) p).length (flat 1 icell (bsl (Ge.inp (vs.take k2) p)))) vs.length ⟨rfl, 0, rfl, rfl, Nat.zero_le _, Below.refl _ _, own_nil _ _ _ 1 icell⟩ ?_
      intro c6' T6' hc2 hT2
      rintro mm f ds W3 ⟨rfl, k2, hf13, rfl, hk2, hB3, ownT⟩
      replace hc2 := hc2.out
      subst hc2
      replace hT2 := hT2.out
      subst hT2
      generalize hF : mrgF _ 0 _ _ = F
      simp only [mrg_hit, mrg_miss, mrg_end, Nat.reduceBEq, Nat.reduceAdd] at hF
      rw [hf13] at hF
      subst hF
      clear hf13
      generalize f 12 = vT at *
      have hle : (Ge.inp (vs.take k2) p).length ≤ k2 := by refine Nat.le_trans (Ge.inp_len _ _) ?_; rw [List.length_take]; omega
      by_cases hk2l : k2 < vs.length
      · have y0 : (0 : Int) ≤ (k2 : Int) := by omega
        have y1 : (k2 : Int) < (vs.length : Int) := by omega
        have q2 : decide ((k2 : Int) < (vs.length : Int)) = true := decide_eq_true y1
        obtain ⟨lb, hlb2, -, b2⟩ := ((hV7.below hB3).more hB3.size).nat_at hk2l
        obtain rfl := Option.some.inj hlb2
        have HI : Hid (Ge.inp (vs.take (k2 + 1)) p = if vs[k2] ∈ p then Ge.inp (vs.take k2) p ++ [vs[k2]] else Ge.inp (vs.take k2) p) := Lib.hid (by rw [List.take_succ_eq_append_getElem hk2l, Ge.inp_snoc])
        obtain ⟨x, hx⟩ : ∃ x, vs[k2] = x := ⟨_, rfl⟩
        rw [hx] at b2 HI
        clear hx
        generalize Ge.inp (vs.take k2) p = os at *
        have kI := rIn_ok (some ⟨gp, 0, none⟩) pc p x W3 ((hSP7.below hB3).more hB3.size) (by omega)
        by_cases hm : x ∈ p
        · rw [decide_eq_true hm] at kI
          have HI2 : Hid (Ge.inp (vs.take (k2 + 1)) p = os ++ [x]) := Lib.hid (by rw [HI.out, if_pos hm])
          clear HI hm
          go_wp2_with fail
          refine kI.mono ?_
          rintro e w4 ⟨rfl, rfl⟩
          go_wp2_with (at_builtin; go_loud (
            refine wpList_push (w0 := w7) (cell := icell) (y := ((x : Nat) : Int)) rfl _ _ _ rfl w7.heap.size w7.heap.size 3 i0 _ 8 Tryd.underlying31 Hi.out Hz0.out Hz1.out Hz2.out rfl (by decide) _ _ _ rfl ownT _ _ rfl _ rfl (fun _ => rfl) (by unfold maxLen; omega) (by omega) hB3.size (Nat.le_refl _) hB3 ?_
            intro v8 w8 hown8 hb8 hg8))
          exact ⟨_, rfl, rfl, vs.length - (k2 + 1), by omega, by trivial, k2 + 1, rfl, rfl, hk2l, hb8, by rw [HI2.out, List.length_append, bsl_snoc]; exact hown8⟩
        · rw [decide_eq_false hm] at kI
          have HI2 : Hid (Ge.inp (vs.take (k2 + 1)) p = os) := Lib.hid (by rw [HI.out, if_neg hm])
          clear HI hm
          go_wp2_with fail
          refine kI.mono ?_
          rintro e w4 ⟨rfl, rfl⟩
          go_wp2_with fail
          exact ⟨_, rfl, rfl, vs.length - (k2 + 1), by omega, by trivial, k2 + 1, rfl, rfl, hk2l, hB3, by rw [HI2.out]; exact ownT⟩
      · obtain rfl : k2 = vs.length := by omega
        have q2 : decide ((vs.length : Int) < (vs.length : Int)) = false := decide_eq_false (by omega)
        rw [List.take_length] at ownT hle
        generalize Ge.inp vs p = os at *
        have st8 := st7.next hB3
        have hB3s := hB3.size
        have ownT2 := own_base ownT hbw7
        rw [← bsl_len] at ownT ownT2
        obtain ⟨TA, tc, rfl, -⟩ := own_slice (by decide) ownT2
        have HCS : Hid ([Value.slice TA (bsl os).length tc] = (List.range 1).map (slcell (⟨TA, tc, bsl os⟩ : SLc))) := Lib.hid rfl
        have hap9 : ∀ q, (Value.slice TA (bsl os).length tc).ownBlock = some q → v7.ownBlock ≠ some q := fun q e e2 => by
          have := HVS7.out q e2
          have := (ownT.lt q e).1
          omega
        clear st7 hB3
        go_wp2_with (at_builtin; go_loud (
          refine wpList_push (w0 := w) (cell := slcell) (y := (⟨TA, tc, bsl os⟩ : SLc)) rfl _ _ _ rfl w.heap.size w.heap.size 31 il _ 24 Tryd.underlying28 Hil.out Hzl0.out Hzl1.out Hzl2.out rfl (by decide) _ _ _ rfl st8.lo.outer _ _ HCS.out _ rfl (sl_one _) (by unfold maxLen; omega) (by omega) st8.bel.size (Nat.le_refl _) st8.bel ?_
          intro v9 w9 hown9 hb9 hg9))
        have lo9 := st8.lo.push ownT2 hown9 hg9
        have os9 := st8.os.kept hg9 (own_ne st8.os st8.lo.outer (by decide))
        have st9 : CmS w w9 v9 v7 (ls ++ [⟨TA, tc, bsl os⟩]) (seen ++ p) := ⟨hb9, lo9, os9, fun s hs q e => by
          rcases List.mem_append.1 hs with hs | hs
          · exact st8.ap s hs q e
          · rw [List.mem_singleton.1 hs] at e
            exact hap9 q e⟩
        exact ⟨_, rfl, rfl, vs.length - (k + 1), by omega, by trivial, k + 1, _, rfl, rfl, hkl, by rw [HN2.out]; exact st9, by rw [HN2.out, List.map_append, List.map_append, HLS.out]; rfl⟩
  · obtain rfl : k = vs.length := by omega
    have q0 : decide ((vs.length : Int) < (vs.length : Int)) = false := decide_eq_false (by omega)
    rw [List.take_length] at hls st
    go_wp2_with fail
    go_ret
    exact ⟨vO, ls, rfl, st.lo, hls, st.bel⟩
end Go.Proofs.YtjoomgojnpcbeaaDoor
end

section
namespace Go.Proofs.YtjoomgojnpcbeaaDoor
namespace Ge
open Bs Dg Gh
theorem ER.adj {n : Nat} {E : List Ed} {R : List Nat} (h : ER n E R) : ∀ a b, Gh.adj R a b → Gh.adj R b a := h.sy
section
variable {E : List Ed} {n : Nat}
end
end Ge
end Go.Proofs.YtjoomgojnpcbeaaDoor
end

section
namespace Go.Proofs.YtjoomgojnpcbeaaDoor
namespace Ge
open Bs Dg Gh
section
variable {E : List Ed} {vs : List Nat}
theorem Con.in_ {v x : Nat} (hv : v ∈ vs) (h : Con E vs v x) : x ∈ vs := by
  cases h with
  | refl => exact hv
  | step _ _ h => exact h
theorem Con.trans {u v w : Nat} (h : Con E vs u v) (h2 : Con E vs v w) : Con E vs u w := by
  induction h2 with
  | refl => exact h
  | step _ h4 h5 ih => exact ih.step h4 h5
theorem Con.symm {u v : Nat} (hu : u ∈ vs) (h : Con E vs u v) : Con E vs v u := by
  induction h with
  | refl => exact .refl
  | step h1 h2 h3 ih => exact (Con.refl.step (by rw [has_comm]; exact h2) (h1.in_ hu)).trans ih
structure CI2 (E : List Ed) (vs l : List Nat) (st : List (List Nat) × List Nat) : Prop where
  mem : ∀ p ∈ st.1, ∃ v ∈ l, ∀ x, x ∈ p ↔ Con E vs v x
  sub : ∀ p ∈ st.1, p.Sublist vs
  seen : ∀ x, x ∈ st.2 ↔ ∃ p ∈ st.1, x ∈ p
  all : ∀ v ∈ l, v ∈ st.2
  dis : st.1.Pairwise fun p q => ∀ x, x ∈ p → x ∈ q → False
theorem inp_mem {v x : Nat} (hv : v ∈ vs) : x ∈ inp vs (prt E vs v) ↔ Con E vs v x := by
  unfold inp
  rw [List.mem_filter, decide_eq_true_eq, prt_mem hv]
  exact ⟨fun h => h.2, fun h => ⟨h.in_ hv, h⟩⟩
theorem compF_ci : ∀ k, k ≤ vs.length → CI2 E vs (vs.take k) (compF E vs (vs.take k))
  | 0, _ => ⟨fun p hp => (by cases hp), fun p hp => (by cases hp), fun x => ⟨fun h => (by cases h), fun ⟨p, hp, _⟩ => (by cases hp)⟩, fun v hv => (by cases hv), List.Pairwise.nil⟩
  | k + 1, hk => by
    have ih := compF_ci k (by omega)
    have hkl : k < vs.length := by omega
    have hv : vs[k] ∈ vs := List.getElem_mem hkl
    rw [List.take_succ_eq_append_getElem hkl, compF_snoc]
    generalize compF E vs (vs.take k) = st at *
    unfold compS
    split
    · next h =>
      refine ⟨fun p hp => ?_, ih.sub, ih.seen, fun v hv => ?_, ih.dis⟩
      · obtain ⟨v, h1, h2⟩ := ih.mem p hp
        exact ⟨v, List.mem_append_left _ h1, h2⟩
      · rcases List.mem_append.1 hv with h1 | h1
        · exact ih.all v h1
        · rw [List.mem_singleton.1 h1]; exact h
    · next h =>
      refine ⟨fun p hp => ?_, fun p hp => ?_, fun x => ?_, fun v hv2 => ?_, ?_⟩
      · rcases List.mem_append.1 hp with hp | hp
        · obtain ⟨v, h1, h2⟩ := ih.mem p hp
          exact ⟨v, List.mem_append_left _ h1, h2⟩
        · rw [List.mem_singleton.1 hp]
          exact ⟨vs[k], List.mem_append_right _ (List.mem_singleton.2 rfl), fun x => inp_mem hv⟩
      · rcases List.mem_append.1 hp with hp | hp
        · exact ih.sub p hp
        · rw [List.mem_singleton.1 hp]; exact List.filter_sublist
      · show x ∈ st.2 ++ prt E vs vs[k] ↔ ∃ p ∈ st.1 ++ [inp vs (prt E vs vs[k])], x ∈ p
        rw [List.mem_append, ih.seen, prt_mem hv]
        constructor
        · rintro (⟨p, hp, hx⟩ | hx)
          · exact ⟨p, List.mem_append_left _ hp, hx⟩
          · exact ⟨_, List.mem_append_right _ (by simp), (inp_mem hv).2 hx⟩
        · rintro ⟨p, hp, hx⟩
          rcases List.mem_append.1 hp with hp | hp
          · exact .inl ⟨p, hp, hx⟩
          · rw [List.mem_singleton.1 hp] at hx
            exact .inr ((inp_mem hv).1 hx)
      · show v ∈ st.2 ++ prt E vs vs[k]
        rcases List.mem_append.1 hv2 with h1 | h1
        · exact List.mem_append_left _ (ih.all v h1)
        · rw [List.mem_singleton.1 h1]
          exact List.mem_append_right _ ((prt_mem hv _).2 .refl)
      · show (st.1 ++ [inp vs (prt E vs vs[k])]).Pairwise _
        rw [List.pairwise_append]
        refine ⟨ih.dis, List.pairwise_singleton _ _, fun p hp q hq x hx hx2 => h ?_⟩
        rw [List.mem_singleton.1 hq] at hx2
        obtain ⟨v, h1, h2⟩ := ih.mem p hp
        rw [ih.seen]
        exact ⟨p, hp, (h2 _).2 (((h2 x).1 hx).trans (((inp_mem hv).1 hx2).symm hv))⟩
theorem comps_ci : CI2 E vs vs (compF E vs vs) := by
  have := compF_ci (E := E) (vs := vs) vs.length (Nat.le_refl _)
  rwa [List.take_length] at this
theorem comps_mem {p : List Nat} (hp : p ∈ comps E vs) : ∃ v ∈ vs, ∀ x, x ∈ p ↔ Con E vs v x := comps_ci.mem p hp
theorem comps_sub {p : List Nat} (hp : p ∈ comps E vs) : p.Sublist vs := comps_ci.sub p hp
theorem comps_cov {x : Nat} (hx : x ∈ vs) : ∃ p ∈ comps E vs, x ∈ p := (comps_ci.seen x).1 (comps_ci.all x hx)
theorem comps_dis : (comps E vs).Pairwise fun p q => ∀ x, x ∈ p → x ∈ q → False := comps_ci.dis
theorem comps_pos {p : List Nat} (hp : p ∈ comps E vs) : ∃ x, x ∈ p := by
  obtain ⟨v, -, h⟩ := comps_mem hp
  exact ⟨v, (h v).2 .refl⟩
theorem comps_link {p : List Nat} (hp : p ∈ comps E vs) {a b : Nat} (ha : a ∈ p) : b ∈ p ↔ Con E vs a b := by
  obtain ⟨v, hv, h⟩ := comps_mem hp
  rw [h]
  have h1 := (h a).1 ha
  exact ⟨fun h2 => (h1.symm hv).trans h2, fun h2 => h1.trans h2⟩
end
def cutAt (E : List Ed) (set : List Nat) : Option Nat := set.find? fun v => decide (2 ≤ (comps E (wo set v)).length)
def side (set p : List Nat) (v : Nat) : List Nat := set.filter fun x => decide (x = v) || decide (x ∈ p)
def dv (E : List Ed) : Nat → List Nat → List (List Nat)
  | 0, _ => []
  | f + 1, set => if set.length < 2 then [] else match cutAt E set with
    | none => [set]
    | some v => (comps E (wo set v)).flatMap fun p => dv E f (side set p v)
theorem mem_wo {L : List Nat} {v x : Nat} : x ∈ wo L v ↔ x ∈ L ∧ x ≠ v := by unfold wo; rw [List.mem_filter]; simp
theorem mem_side {set p : List Nat} {v x : Nat} : x ∈ side set p v ↔ x ∈ set ∧ (x = v ∨ x ∈ p) := by unfold side; rw [List.mem_filter]; simp
theorem side_lt {E : List Ed} {set p : List Nat} {v : Nat} (hp : p ∈ comps E (wo set v)) (h2 : 2 ≤ (comps E (wo set v)).length) : (side set p v).length < set.length := by
  have hd := comps_dis (E := E) (vs := wo set v)
  obtain ⟨q, hq, x, hx, hxp⟩ : ∃ q ∈ comps E (wo set v), ∃ x, x ∈ q ∧ x ∉ p := by
    refine Classical.byContradiction fun hn => ?_
    have hall : ∀ q ∈ comps E (wo set v), ∀ x ∈ q, x ∈ p := fun q hq x hx => Classical.byContradiction fun h => hn ⟨q, hq, x, hx, h⟩
    have key : ∀ (L : List (List Nat)), L.Pairwise (fun p q => ∀ x, x ∈ p → x ∈ q → False) → (∀ q ∈ L, ∃ x, x ∈ q) → p ∈ L → (∀ q ∈ L, ∀ x ∈ q, x ∈ p) → L.length ≤ 1 := by
      intro L hL hpos hpL hall
      match L, hL, hpos, hpL, hall with
      | [], _, _, h, _ => cases h
      | [_], _, _, _, _ => exact Nat.le_refl _
      | a :: b :: L, hL, hpos, hpL, hall =>
        exfalso
        obtain ⟨h1, h2⟩ := List.pairwise_cons.1 hL
        obtain ⟨h3, -⟩ := List.pairwise_cons.1 h2
        rcases List.mem_cons.1 hpL with e | hpL
        · obtain ⟨y, hy⟩ := hpos b (by simp)
          exact h1 b (by simp) y (e ▸ hall b (by simp) y hy) hy
        · obtain ⟨y, hy⟩ := hpos a (by simp)
          exact h1 p hpL y hy (hall a (by simp) y hy)
    have := key _ hd (fun q hq => comps_pos hq) hp hall
    omega
  have hxs := mem_wo.1 ((comps_sub hq).subset hx)
  unfold side
  refine Nat.lt_of_le_of_ne (List.length_filter_le _ _) fun e => ?_
  have := List.length_filter_eq_length_iff.1 e x hxs.1
  simp [hxs.2, hxp] at this
section
variable {n : Nat} {E : List Ed} {R : List Nat}
theorem con_lk (h : ER n E R) {vs : List Nat} {a b : Nat} (ha : a ∈ vs) (hc : Con E vs a b) : Lk R (fun z => z ∈ vs) a b := by
  induction hc with
  | refl => exact .refl ha
  | step h1 h2 h3 ih => exact ih.step (by show (row R _).testBit _ = true; rw [h.bit]; exact h2) h3
theorem lk_con (h : ER n E R) {vs : List Nat} {a b : Nat} (hl : Lk R (fun z => z ∈ vs) a b) : Con E vs a b := by
  induction hl with
  | refl => exact .refl
  | step h1 h2 h3 ih => exact ih.step (by rw [← h.bit]; exact h2) h3
structure DV (R : List Nat) (set : List Nat) (F : List (List Nat)) : Prop where
  ns : ∀ b ∈ F, NS R (fun z => z ∈ b) ∧ (∃ x y, x ∈ b ∧ y ∈ b ∧ x ≠ y) ∧ b.Sublist set
  cov : ∀ S, NS R S → (∃ a b, S a ∧ S b ∧ a ≠ b) → (∀ x, S x → x ∈ set) → ∃ b ∈ F, ∀ z, S z → z ∈ b
  pw : F.Pairwise Sh
theorem two_of {set : List Nat} (hn : set.Nodup) (h2 : ¬ set.length < 2) : ∃ x y, x ∈ set ∧ y ∈ set ∧ x ≠ y := by
  match set, hn, h2 with
  | [], _, h2 => exact absurd (by simp) h2
  | [_], _, h2 => exact absurd (by simp) h2
  | a :: b :: l, hn, _ => exact ⟨a, b, by simp, by simp, fun e => (List.nodup_cons.1 hn).1 (by simp [e])⟩
theorem dv_ok (h : ER n E R) : ∀ (f : Nat) (set : List Nat), set.length ≤ f → set.Nodup → Conn R (fun z => z ∈ set) → DV R set (dv E f set)
  | 0, set, hl, _, _ => by
    have : set = [] := List.eq_nil_of_length_eq_zero (by omega)
    subst this
    exact ⟨fun b hb => (by cases hb), fun S _ ⟨a, _, ha, _⟩ hs => absurd (hs a ha) (by simp), List.Pairwise.nil⟩
  | f + 1, set, hl, hnd, hcon => by
    unfold dv
    by_cases h2 : set.length < 2
    · rw [if_pos h2]
      refine ⟨fun b hb => (by cases hb), fun S _ ⟨a, b, ha, hb, hne⟩ hs => ?_, List.Pairwise.nil⟩
      have h3 := nodup_le (l := [a, b]) (m := set) (List.nodup_cons.2 ⟨by simpa using hne, by simp⟩) (fun x hx => by
        rcases List.mem_cons.1 hx with rfl | hx
        · exact hs _ ha
        · rw [List.mem_singleton.1 hx]; exact hs _ hb)
      simp at h3
      omega
    rw [if_neg h2]
    cases hc : cutAt E set with
    | none =>
      have hno : ∀ v ∈ set, ¬ 2 ≤ (comps E (wo set v)).length := fun v hv => by
        have := List.find?_eq_none.1 hc v hv
        simpa using this
      refine ⟨fun b hb => ?_, fun S _ _ hs => ⟨set, by simp, hs⟩, List.pairwise_singleton _ _⟩
      rw [List.mem_singleton.1 hb]
      refine ⟨⟨hcon, fun x => ?_⟩, two_of hnd h2, List.Sublist.refl _⟩
      by_cases hx : x ∈ set
      · intro a b ha hb
        obtain ⟨p, hp, hap⟩ := comps_cov (E := E) (mem_wo.2 ha)
        obtain ⟨q, hq, hbq⟩ := comps_cov (E := E) (mem_wo.2 hb)
        have hpq : p = q := by
          have h3 := hno x hx
          generalize comps E (wo set x) = L at *
          match L, hp, hq, h3 with
          | [c], hp, hq, _ => rw [List.mem_singleton.1 hp, List.mem_singleton.1 hq]
          | _ :: _ :: _, _, _, h3 => simp at h3
        rw [hpq] at hap
        exact (con_lk h (mem_wo.2 ha) ((comps_link hq hap).1 hbq)).mono fun z hz => mem_wo.1 hz
      · exact fun a b ha hb => (hcon a b ha.1 hb.1).mono fun z hz => ⟨hz, fun e => hx (e ▸ hz)⟩
    | some v =>
      have hv : v ∈ set := List.mem_of_find?_eq_some hc
      have hc2 : 2 ≤ (comps E (wo set v)).length := by
        have := List.find?_some hc
        simpa using this
      have hsc : ∀ p ∈ comps E (wo set v), Conn R (fun z => z ∈ side set p v) := fun p hp => by
        have hvs : v ∈ side set p v := mem_side.2 ⟨hv, .inl rfl⟩
        refine conn_of h.adj v fun x hx => ?_
        rcases (mem_side.1 hx).2 with e | hxp
        · rw [e]; exact .refl hvs
        have hps : ∀ z, z ∈ p → z ∈ side set p v := fun z hz => mem_side.2 ⟨(mem_wo.1 ((comps_sub hp).subset hz)).1, .inr hz⟩
        have hxw := (comps_sub hp).subset hxp
        have key : ∀ y, Lk R (fun z => z ∈ set) x y → (y ∈ p ∧ Lk R (fun z => z ∈ side set p v) x y) ∨ Lk R (fun z => z ∈ side set p v) x v := fun y hy => by
          induction hy with
          | refl => exact .inl ⟨hxp, .refl (hps _ hxp)⟩
          | step h1 h3 h4 ih =>
            rcases ih with ⟨h5, h6⟩ | h5
            · rename_i b c
              by_cases e : c = v
              · refine .inr ?_
                rw [e] at h3
                exact h6.step h3 hvs
              · have hcp : c ∈ p := (comps_link hp h5).2 (Con.refl.step (by rw [← h.bit]; exact h3) (mem_wo.2 ⟨h4, e⟩))
                exact .inl ⟨hcp, h6.step h3 (hps _ hcp)⟩
            · exact .inr h5
        rcases key v (hcon x v (mem_wo.1 hxw).1 hv) with h5 | h5
        · exact h5.2
        · exact h5
      have ih : ∀ p ∈ comps E (wo set v), DV R (side set p v) (dv E f (side set p v)) := fun p hp => dv_ok h f _ (by have := side_lt hp hc2; omega) (hnd.filter _) (hsc p hp)
      refine ⟨fun b hb => ?_, fun S hS h3 hs => ?_, ?_⟩
      · obtain ⟨p, hp, hb⟩ := List.mem_flatMap.1 hb
        obtain ⟨q1, q2, q3⟩ := (ih p hp).ns b hb
        exact ⟨q1, q2, q3.trans List.filter_sublist⟩
      · obtain ⟨a, b, ha, hb, hne⟩ := h3
        obtain ⟨a0, ha0, hav⟩ : ∃ a0, S a0 ∧ a0 ≠ v := by
          by_cases e : a = v
          · exact ⟨b, hb, fun e2 => hne (e.trans e2.symm)⟩
          · exact ⟨a, ha, e⟩
        obtain ⟨p, hp, hap⟩ := comps_cov (E := E) (mem_wo.2 ⟨hs a0 ha0, hav⟩)
        have hsub : ∀ x, S x → x ∈ side set p v := fun x hx => by
          refine mem_side.2 ⟨hs x hx, ?_⟩
          by_cases e : x = v
          · exact .inl e
          · refine .inr ((comps_link hp hap).2 (lk_con h ?_))
            exact (hS.2 v a0 x ⟨ha0, hav⟩ ⟨hx, e⟩).mono fun z hz => mem_wo.2 ⟨hs z hz.1, hz.2⟩
        obtain ⟨c, hc3, hz⟩ := (ih p hp).cov S hS ⟨a, b, ha, hb, hne⟩ hsub
        exact ⟨c, List.mem_flatMap.2 ⟨p, hp, hc3⟩, hz⟩
      · rw [List.pairwise_flatMap]
        refine ⟨fun p hp => (ih p hp).pw, ?_⟩
        refine List.Pairwise.imp_of_mem (fun {p q} hp hq hpq b hb c hc3 => ⟨v, fun x hx hx2 => ?_⟩) (comps_dis (E := E) (vs := wo set v))
        have h5 := mem_side.1 (((ih p hp).ns b hb).2.2.subset hx)
        have h6 := mem_side.1 (((ih q hq).ns c hc3).2.2.subset hx2)
        rcases h5.2 with e | h5
        · exact e
        · rcases h6.2 with e | h6
          · exact e
          · exact absurd h6 (fun h6 => hpq x h5 h6)
def allB (E : List Ed) (n : Nat) : List (List Nat) := (comps E (List.range n)).flatMap fun p => dv E p.length p
theorem allB_isB (h : ER n E R) : IsB R (allB E n) ∧ ∀ b ∈ allB E n, b.Sublist (List.range n) := by
  have hnd : ∀ p ∈ comps E (List.range n), p.Nodup := fun p hp => List.nodup_range.sublist (comps_sub hp)
  have hcon : ∀ p ∈ comps E (List.range n), Conn R (fun z => z ∈ p) := fun p hp a b ha hb => by
    have h1 := con_lk h ((comps_sub hp).subset ha) ((comps_link hp ha).1 hb)
    have h2 : Lk R (fun z => z ∈ p) a b := by
      clear hb
      induction h1 with
      | refl => exact .refl ha
      | step h3 h4 h5 ih => exact ih.step h4 ((comps_link hp ha).2 ((lk_con h h3).step (by rw [← h.bit]; exact h4) h5))
    exact h2
  have hd : ∀ p ∈ comps E (List.range n), DV R p (dv E p.length p) := fun p hp => dv_ok h _ p (Nat.le_refl _) (hnd p hp) (hcon p hp)
  refine ⟨⟨fun b hb => ?_, fun S hS h2 hlt => ?_, ?_⟩, fun b hb => ?_⟩
  · obtain ⟨p, hp, hb⟩ := List.mem_flatMap.1 hb
    obtain ⟨q1, q2, -⟩ := (hd p hp).ns b hb
    exact ⟨q1, q2⟩
  · obtain ⟨a, b, ha, hb, hne⟩ := h2
    have hl := h.len
    obtain ⟨p, hp, hap⟩ := comps_cov (E := E) (vs := List.range n) (x := a) (List.mem_range.2 (by have := hlt a ha; omega))
    obtain ⟨c, hc, hz⟩ := (hd p hp).cov S hS ⟨a, b, ha, hb, hne⟩ (fun x hx => (comps_link hp hap).2 (lk_con h ((hS.1 a x ha hx).mono fun z hz => List.mem_range.2 (by have := hlt z hz; omega))))
    exact ⟨c, List.mem_flatMap.2 ⟨p, hp, hc⟩, hz⟩
  · unfold allB
    rw [List.pairwise_flatMap]
    refine ⟨fun p hp => (hd p hp).pw, ?_⟩
    refine List.Pairwise.imp_of_mem (fun {p q} hp hq hpq b hb c hc => ⟨0, fun x hx hx2 => ?_⟩) (comps_dis (E := E) (vs := List.range n))
    exact (hpq x (((hd p hp).ns b hb).2.2.subset hx) (((hd q hq).ns c hc).2.2.subset hx2)).elim
  · obtain ⟨p, hp, hb⟩ := List.mem_flatMap.1 hb
    exact (((hd p hp).ns b hb).2.2).trans (comps_sub hp)
theorem isB_nodup {F : List (List Nat)} (h : IsB R F) : F.Nodup := by
  refine List.Pairwise.imp_of_mem (fun {a b} ha hb ⟨u, hu⟩ e => ?_) h.pw
  subst e
  obtain ⟨-, x, y, hx, hy, hne⟩ := h.ns a ha
  exact hne ((hu x hx hx).trans (hu y hy hy).symm)
theorem isB_sub {F F' : List (List Nat)} (h : IsB R F) (h' : IsB R F') (hlt : ∀ b ∈ F, ∀ x ∈ b, x < R.length) (hlt' : ∀ b ∈ F', ∀ x ∈ b, x < R.length) (hs : ∀ b ∈ F, b.Pairwise (· < ·)) (hs' : ∀ b ∈ F', b.Pairwise (· < ·)) {b : List Nat} (hb : b ∈ F) : b ∈ F' := by
  obtain ⟨n1, t1⟩ := h.ns b hb
  obtain ⟨b1, hb1, s1⟩ := h'.cov _ n1 t1 (fun x hx => hlt b hb x hx)
  obtain ⟨n2, t2⟩ := h'.ns b1 hb1
  obtain ⟨b2, hb2, s2⟩ := h.cov _ n2 t2 (fun x hx => hlt' b1 hb1 x hx)
  have hsub : ∀ x ∈ b, x ∈ b2 := fun x hx => s2 x (s1 x hx)
  have hbb : b = b2 := by
    refine Classical.byContradiction fun hne => ?_
    have hsym : ∀ {x y : List Nat}, Sh x y → Sh y x := fun ⟨u, hu⟩ => ⟨u, fun z h1 h2 => hu z h2 h1⟩
    have p1 : F.Pairwise (fun a b => a ≠ b → Sh a b) := by
      refine h.pw.imp ?_
      intro a b h _
      exact h
    have p2 : F.Pairwise (flip fun a b => a ≠ b → Sh a b) := by
      refine h.pw.imp ?_
      intro a b h _
      exact hsym h
    obtain ⟨u, hu⟩ := List.Pairwise.forall_of_forall_of_flip (R := fun a b => a ≠ b → Sh a b) (fun x _ h => absurd rfl h) p1 p2 hb hb2 hne
    obtain ⟨x, y, hx, hy, hxy⟩ := t1
    exact hxy ((hu x hx (hsub x hx)).trans (hu y hy (hsub y hy)).symm)
  have e : b = b1 := by
    have hp : b.Perm b1 := (List.perm_ext_iff_of_nodup ((hs b hb).imp Nat.ne_of_lt) ((hs' b1 hb1).imp Nat.ne_of_lt)).2 fun x => ⟨s1 x, fun hx => hbb ▸ s2 x hx⟩
    exact hp.eq_of_pairwise (fun a b _ _ h1 h2 => absurd h1 (by have : b < a := h2; intro h3; have : a < b := h3; omega)) (hs b hb) (hs' b1 hb1)
  rw [e]; exact hb1
end
end Ge
end Go.Proofs.YtjoomgojnpcbeaaDoor
end

section
namespace Go.Proofs.YtjoomgojnpcbeaaDoor
namespace Ge
open Bs Dg Gh
def cnt (F : List (List Nat)) (j : Nat) : Nat := (F.filter fun b => decide (j ∈ b)).length
theorem cnt_snoc (F : List (List Nat)) (b : List Nat) (j : Nat) : cnt (F ++ [b]) j = cnt F j + if j ∈ b then 1 else 0 := by
  unfold cnt
  rw [List.filter_append, List.length_append]
  congr 1
  split
  · next h => simp [h]
  · next h => simp [h]
structure SI (n : Nat) (s : Bk) : Prop where
  so : ∀ b ∈ s.blocks, b.Pairwise (· < ·) ∧ ∀ x ∈ b, x < n
  sh : ∀ j, s.sh j = cnt s.blocks j
theorem SI.cut {n v w : Nat} {s : Bk} (h : SI n s) (bi : BI n s) (hn : n ≤ 512) (hv : v < n) : SI n (cut v w s) := by
  have hmem : ∀ x ∈ v :: popd w s, x < n := fun x hx => by
    rcases List.mem_cons.1 hx with e | hx
    · omega
    · exact (bi.mem x (List.mem_of_mem_drop hx)).1
  have hm2 : ∀ x ∈ v :: popd w s, x < 512 := fun x hx => by have := hmem x hx; omega
  refine ⟨fun b hb => ?_, fun j => ?_⟩
  · have hb : b ∈ s.blocks ++ [srt (v :: popd w s)] := hb
    rcases List.mem_append.1 hb with hb | hb
    · exact h.so b hb
    · rw [List.mem_singleton.1 hb]
      exact ⟨srt_lt _, fun x hx => hmem x ((srt_mem hm2).1 hx)⟩
  · show (if j ∈ v :: popd w s then s.sh j + 1 else s.sh j) = cnt (s.blocks ++ [srt (v :: popd w s)]) j
    rw [cnt_snoc, h.sh]
    by_cases hj : j ∈ v :: popd w s
    · rw [if_pos hj, if_pos ((srt_mem hm2).2 hj)]
    · rw [if_neg hj, if_neg (fun h => hj ((srt_mem hm2).1 h))]; rfl
theorem fin_si {n v w : Nat} {s1 s2 : Bk} (hn : n ≤ 512) (hv : v < n) (hw : VI n s1 s2 w) (d : SI n s2) : SI n (fin v w s2) := by
  have hl : BI n (setlow v (min (s2.low v) (s2.low w)) s2) := hw.bi.setlow (by have := hw.bi.low v; omega)
  have d2 : SI n (setlow v (min (s2.low v) (s2.low w)) s2) := ⟨d.so, d.sh⟩
  unfold fin
  dsimp only
  split
  · exact d2
  · exact d2.cut hl hn hv
theorem fold_si {n v : Nat} {p : Int} {s : Bk} {vis : Nat → Int → Bk → Bk} {f : Nat} (hn : n ≤ 512) (hv : v < n) (hvis : ∀ w s1, w < n → BI n s1 → s1.ent w = 0 → left n s1 ≤ f → VI n s1 (vis w v s1) w) (hd : ∀ w s1, w < n → BI n s1 → s1.ent w = 0 → left n s1 ≤ f → SI n s1 → SI n (vis w v s1)) :
    ∀ (l : List Nat) (s1 : Bk), (∀ w ∈ l, w < n) → left n s1 ≤ f → VI n s s1 v → SI n s1 → SI n (l.foldl (stepB vis v p) s1)
  | [], _, _, _, _, d => d
  | w :: l, s1, hl, hf, h, d => by
    have hw := hl w (by simp)
    have h1 := fold_vi (p := p) hvis [w] s1 (fun x hx => by rw [List.mem_singleton.1 hx]; exact hw) hf h
    rw [List.foldl_cons, List.foldl_nil] at h1
    rw [List.foldl_cons]
    refine fold_si hn hv hvis hd l _ (fun x hx => hl x (by simp [hx])) h1.2 h1.1 ?_
    unfold stepB
    split
    · exact d
    · split
      · exact ⟨d.so, d.sh⟩
      · rename_i h3
        exact fin_si hn hv (hvis w s1 hw h.bi (by omega) hf) (hd w s1 hw h.bi (by omega) hf d)
theorem visit_si {R : List Nat} {n : Nat} (hR : ∀ v w, (row R v).testBit w = true → w < n) (hn : n ≤ 512) : ∀ (f v : Nat) (p : Int) (s : Bk), v < n → BI n s → s.ent v = 0 → left n s ≤ f → SI n s → SI n (visit R f v p s)
  | 0, _, _, _, _, _, _, _, d => d
  | f + 1, v, p, s, hv, h, h0, hf, d => by
    have h1 := left_enter hv h0
    refine fold_si (f := f) hn hv (fun w s1 hw hb h0' hf' => visit_vi hR hn f w v s1 hw hb h0' hf') (fun w s1 hw hb h0' hf' => visit_si hR hn f w v s1 hw hb h0' hf') _ _ (fun w hw => hR v w ?_) (by omega) (VI.enter h hv h0) ⟨d.so, d.sh⟩
    rw [mem_els (fun i hi => by cases hc : (row R v).testBit i with | false => rfl | true => have := hR v i hc; omega)] at hw
    exact hw
theorem upto_si {R : List Nat} (hR : ∀ v w, (row R v).testBit w = true → w < R.length) (hn : R.length ≤ 512) : ∀ k, k ≤ R.length → SI R.length (upto R k)
  | 0, _ => { so := (fun b hb => nomatch (show b ∈ ([] : List (List Nat)) from hb)), sh := (fun j => rfl) }
  | k + 1, hk => by
    obtain ⟨h1, -, -⟩ := upto_ok hR hn k (by omega)
    have h2 := upto_si hR hn k (by omega)
    unfold upto
    dsimp only
    split
    · rename_i h0
      have hl : left R.length (upto R k) ≤ R.length := by have := h1.ct; omega
      have d := visit_si hR hn R.length k (-1) _ (by omega) h1 h0 hl h2
      exact ⟨d.so, d.sh⟩
    · exact h2
theorem cnt_perm {F F' : List (List Nat)} (h : F.Perm F') (j : Nat) : cnt F j = cnt F' j := (h.filter _).length_eq
def srtB (E : List Ed) (n : Nat) : List (List Nat) := isort (allB E n)
def cutB (E : List Ed) (n k : Nat) : List Nat := (List.range k).filter fun v => decide (2 ≤ cnt (srtB E n) v)
section
variable {n : Nat} {E : List Ed} {R : List Nat}
theorem allB_perm (h : ER n E R) : (found R).blocks.Perm (allB E n) ∧ srtB E n = blks R := by
  obtain ⟨h1, h2'⟩ := allB_isB h
  have hfit := h.fit
  have hlen : R.length ≤ 512 := by have := h.len; have := h.le; omega
  have h2 : ∀ b ∈ allB E n, b.Pairwise (· < ·) := fun b hb => List.pairwise_lt_range.sublist (h2' b hb)
  have h3 := blks_isB hfit hlen h.adj
  have h4 := upto_si hfit hlen R.length (Nat.le_refl _)
  have hp := isort_perm (found R).blocks
  have hlt : ∀ b ∈ allB E n, ∀ x ∈ b, x < R.length := fun b hb x hx => by
    rw [h.len]; exact List.mem_range.1 ((h2' b hb).subset hx)
  have hs' : ∀ b ∈ blks R, b.Pairwise (· < ·) ∧ ∀ x ∈ b, x < R.length := fun b hb => h4.so b (hp.mem_iff.1 hb)
  have q : (blks R).Perm (allB E n) := (List.perm_ext_iff_of_nodup (isB_nodup h3) (isB_nodup h1)).2 fun b => ⟨fun hb => isB_sub h3 h1 (fun b hb => (hs' b hb).2) hlt (fun b hb => (hs' b hb).1) h2 hb, fun hb => isB_sub h1 h3 hlt (fun b hb => (hs' b hb).2) h2 (fun b hb => (hs' b hb).1) hb⟩
  have q2 := hp.symm.trans q
  exact ⟨q2, sorted_uniq ((isort_perm _).trans (q2.symm.trans hp.symm)) (isort_sorted _) (isort_sorted _)⟩
theorem cuts_eq (h : ER n E R) : cutB E n n = cuts R := by
  obtain ⟨h1, h2⟩ := allB_perm h
  have hfit := h.fit
  have hlen : R.length ≤ 512 := by have := h.len; have := h.le; omega
  have h4 := upto_si hfit hlen R.length (Nat.le_refl _)
  unfold cutB cuts
  rw [h.len]
  refine List.filter_congr fun v _ => ?_
  rw [h2, decide_eq_decide, show (found R).sh v = cnt (found R).blocks v from h4.sh v, cnt_perm (isort_perm (found R).blocks).symm v]
  rfl
end
end Ge
end Go.Proofs.YtjoomgojnpcbeaaDoor
end

section
namespace Go.Proofs.YtjoomgojnpcbeaaDoor
open Go Go.RowKit Gh
set_option maxRecDepth 100000
namespace Gh
theorem lex_cons {x y : Int} {a b : List Int} (h : x ≠ y) : decide (lexC (x :: a) (y :: b) < 0) = decide (x < y) := by
  rw [decide_eq_decide]
  unfold lexC
  split
  · next h1 => exact ⟨fun _ => h1, fun _ => by omega⟩
  · next h1 =>
    rw [if_pos (by omega)]
    exact ⟨fun h2 => by omega, fun h2 => absurd h2 h1⟩
theorem lex_same {x : Int} {a b : List Int} : lexC (x :: a) (x :: b) = lexC a b := by
  rw [lexC, if_neg (by omega), if_neg (by omega)]
theorem lex_end {a b : List Int} {k : Nat} (hk : k ≤ a.length) (hk2 : k ≤ b.length) (h : ¬ (k < a.length ∧ k < b.length)) : decide (lexC (a.drop k) (b.drop k) < 0) = decide (a.length < b.length) := by
  rw [decide_eq_decide]
  by_cases h1 : k < a.length
  · have h2 : k = b.length := by omega
    rw [show b.drop k = [] from List.drop_eq_nil_of_le (by omega), List.drop_eq_getElem_cons h1]
    refine ⟨fun h3 => by simp [lexC] at h3, fun h3 => by omega⟩
  · rw [show a.drop k = [] from List.drop_eq_nil_of_le (by omega)]
    by_cases h3 : k < b.length
    · rw [List.drop_eq_getElem_cons h3]
      refine ⟨fun _ => by omega, fun _ => by simp [lexC]⟩
    · rw [show b.drop k = [] from List.drop_eq_nil_of_le (by omega)]
      refine ⟨fun h4 => by simp [lexC] at h4, fun _ => by omega⟩
end Gh
set_option maxHeartbeats 16000000 in
theorem rLess_ok (A B : Option Addr) (ac bc : Nat) (a b : List Int) (w : World) (hA : Sl 1 icell w w.heap.size A a) (hB' : Sl 1 icell w w.heap.size B b) (hla : a.length ≤ 1000000) :
    Calls Tryd.prog 51 #[.slice A a.length ac, .slice B b.length bc] w fun e w' => e = .returned (.bool (decide (lexC a b < 0))) ∧ Below w.heap.size w w' := by
  obtain ⟨r, hr⟩ : ∃ r, decide (lexC a b < 0) = r := ⟨_, rfl⟩
  rw [hr]
  have HR := Lib.hid hr
  clear hr
  go_enter Tryd.func51, Tryd.ntmps51
  go_wp2_with fail
  go_loopw [5] (fun i wr => ∃ k : Nat, k ≤ a.length ∧ k ≤ b.length ∧ i = .int .i64 k ∧ Below w.heap.size w wr ∧ Hid (decide (lexC (a.drop k) (b.drop k) < 0) = r)) (fun i _ => a.length - (intOf i).toNat)
  case atStart => exact ⟨0, Nat.zero_le _, Nat.zero_le _, rfl, Below.refl _ _, HR⟩
  case round =>
    obtain ⟨k, hk, hk2, rfl, hB, HK⟩ := hrel
    by_cases hlt : k < a.length
    · have q0 : decide ((k : Int) < (a.length : Int)) = true := decide_eq_true (by omega)
      by_cases hlt2 : k < b.length
      · have q1 : decide ((k : Int) < (b.length : Int)) = true := decide_eq_true (by omega)
        have x0 : (0 : Int) ≤ (k : Int) := by omega
        have x1 : (k : Int) < (a.length : Int) := by omega
        have x2 : (k : Int) < (b.length : Int) := by omega
        obtain ⟨la, rfl, hlb, a0⟩ := ((hA.below hB).more hB.size).int_at hlt
        obtain ⟨lb, rfl, hlb2, b0⟩ := ((hB'.below hB).more hB.size).int_at hlt2
        have l1 : (la.add k).block < wr.heap.size := by first | exact hlb | (rw [add_block]; exact hlb)
        have l2 : (lb.add k).block < wr.heap.size := by first | exact hlb2 | (rw [add_block]; exact hlb2)
        have HS : Hid (decide (lexC (a[k] :: a.drop (k + 1)) (b[k] :: b.drop (k + 1)) < 0) = r) := Lib.hid (by rw [← List.drop_eq_getElem_cons hlt, ← List.drop_eq_getElem_cons hlt2]; exact HK.out)
        clear HK
        obtain ⟨x, hx⟩ : ∃ x, a[k] = x := ⟨_, rfl⟩
        obtain ⟨y, hy⟩ : ∃ y, b[k] = y := ⟨_, rfl⟩
        rw [hx] at a0 HS
        rw [hy] at b0 HS
        have HX := Lib.hid hx
        have HY := Lib.hid hy
        clear hx hy
        by_cases he : x = y
        · have q : (x != y) = false := by simp [he]
          have HK2 : Hid (decide (lexC (a.drop (k + 1)) (b.drop (k + 1)) < 0) = r) := Lib.hid (by rw [← HS.out, he, lex_same])
          clear HS he HX HY
          go_wp2_with fail
          refine wp_region_kept wr.heap.size wr (by kernel_rfl) (by kernel_rfl) (Below.refl _ _) ?_
          repeat (go_big_quiet_step (fail))
          refine wpQuiet_nil ?_
          rintro w5 ⟨⟨w5x, hb5⟩, hw5⟩
          dsimp only at hw5
          subst hw5
          go_wp2_with fail
          go_roundw
          case rel => exact ⟨k + 1, hlt, hlt2, by go_num, after_ hB hb5, HK2⟩
          case measure => simp [intOf]; omega
        · have q : (x != y) = true := by simp [he]
          have HF : Hid (decide (x < y) = r) := Lib.hid (by rw [← HS.out, lex_cons he])
          clear HS he
          go_wp2_with fail
          refine wp_region_kept wr.heap.size wr (by kernel_rfl) (by kernel_rfl) (Below.refl _ _) ?_
          repeat (go_big_quiet_step (fail))
          refine wpQuiet_nil ?_
          rintro w5 ⟨⟨w5x, hb5⟩, hw5⟩
          dsimp only at hw5
          subst hw5
          have hB5 := after_ hB hb5
          clear a0 b0 l1 l2 hlb hlb2
          obtain ⟨la2, ela, hlb, a0⟩ := ((hA.below hB5).more hB5.size).int_at hlt
          obtain ⟨lb2, elb, hlb2, b0⟩ := ((hB'.below hB5).more hB5.size).int_at hlt2
          obtain rfl := Option.some.inj ela
          obtain rfl := Option.some.inj elb
          rw [HX.out] at a0
          rw [HY.out] at b0
          have l1 : (la.add k).block < w5.heap.size := by first | exact hlb | (rw [add_block]; exact hlb)
          have l2 : (lb.add k).block < w5.heap.size := by first | exact hlb2 | (rw [add_block]; exact hlb2)
          go_wp2_with fail
          refine wp_region_kept w5.heap.size w5 (by kernel_rfl) (by kernel_rfl) (Below.refl _ _) ?_
          repeat (go_big_quiet_step (fail))
          refine wpQuiet_nil ?_
          rintro w6 ⟨⟨w6x, hb6⟩, hw6⟩
          dsimp only at hw6
          subst hw6
          go_wp2_with fail
          go_ret
          exact ⟨ret_bool HF.out, after_ hB5 hb6⟩
      · have q1 : decide ((k : Int) < (b.length : Int)) = false := decide_eq_false (by omega)
        have HF : Hid (decide (a.length < b.length) = r) := Lib.hid (by rw [← HK.out, lex_end hk hk2 (by omega)])
        clear HK
        go_wp2_with fail
        go_ret
        exact ⟨ret_bool HF.out, hB⟩
    · have q0 : decide ((k : Int) < (a.length : Int)) = false := decide_eq_false (by omega)
      have HF : Hid (decide (a.length < b.length) = r) := Lib.hid (by rw [← HK.out, lex_end hk hk2 (by omega)])
      clear HK
      go_wp2_with fail
      go_ret
      exact ⟨ret_bool HF.out, hB⟩
namespace Ge
theorem flat_nodup {L : List (List Nat)} (h1 : ∀ p ∈ L, p.Nodup) (h2 : L.Pairwise fun p q => ∀ x, x ∈ p → x ∈ q → False) : L.flatten.Nodup := by
  induction L with
  | nil => exact List.nodup_nil
  | cons p L ih =>
    obtain ⟨q1, q2⟩ := List.pairwise_cons.1 h2
    rw [List.flatten_cons, List.nodup_append]
    refine ⟨h1 p (by simp), ih (fun q hq => h1 q (by simp [hq])) q2, fun a ha b hb e => ?_⟩
    subst e
    obtain ⟨q, hq, hq2⟩ := List.mem_flatten.1 hb
    exact q1 q hq a ha hq2
theorem flatMap_sum {α β : Type} (f : α → List β) (g : α → Nat) : ∀ (L : List α), (∀ p ∈ L, (f p).length ≤ g p) → (L.flatMap f).length ≤ (L.map g).sum
  | [], _ => Nat.zero_le _
  | p :: L, h => by
    have := flatMap_sum f g L (fun q hq => h q (by simp [hq]))
    have := h p (by simp)
    rw [List.flatMap_cons, List.length_append, List.map_cons, List.sum_cons]
    omega
theorem side_len {set p : List Nat} {v : Nat} (hn : set.Nodup) : (side set p v).length ≤ p.length + 1 := by
  have h1 : (side set p v).Nodup := hn.filter _
  have := nodup_le (l := side set p v) (m := v :: p) h1 (fun x hx => by
    rcases (mem_side.1 hx).2 with e | h
    · rw [e]; simp
    · simp [h])
  simpa using this
theorem dv_len {E : List Ed} : ∀ (f : Nat) (set : List Nat), set.Nodup → (dv E f set).length ≤ set.length - 1
  | 0, _, _ => Nat.zero_le _
  | f + 1, set, hn => by
    unfold dv
    by_cases h2 : set.length < 2
    · rw [if_pos h2]; exact Nat.zero_le _
    rw [if_neg h2]
    cases hc : cutAt E set with
    | none => show 1 ≤ set.length - 1; omega
    | some v =>
      have hv : v ∈ set := List.mem_of_find?_eq_some hc
      have h1 := flatMap_sum (fun p => dv E f (side set p v)) (fun p => p.length) (comps E (wo set v)) (fun p hp => by
        have := dv_len (E := E) f (side set p v) (hn.filter _)
        have := side_len (p := p) (v := v) hn
        omega)
      have h3 : (comps E (wo set v)).flatten.Nodup := flat_nodup (fun p hp => (hn.filter _).sublist (comps_sub hp)) comps_dis
      have h4 : (comps E (wo set v)).flatten.length ≤ (wo set v).length := nodup_le h3 (fun x hx => by
        obtain ⟨p, hp, hx⟩ := List.mem_flatten.1 hx
        exact (comps_sub hp).subset hx)
      rw [List.length_flatten] at h4
      have h5 : (wo set v).length < set.length := by
        refine Nat.lt_of_le_of_ne (List.length_filter_le _ _) fun e => ?_
        have := List.length_filter_eq_length_iff.1 e v hv
        simp at this
      show ((comps E (wo set v)).flatMap fun p => dv E f (side set p v)).length ≤ set.length - 1
      exact Nat.le_trans h1 (Nat.le_trans h4 (by omega))
theorem dv_small {E : List Ed} {f : Nat} {set : List Nat} (h : set.length < 2) : dv E f set = [] := by
  cases f with
  | zero => rfl
  | succ f => unfold dv; rw [if_pos h]
theorem dv_one {E : List Ed} {f : Nat} {set : List Nat} (h : ¬ set.length < 2) (hc : cutAt E set = none) : dv E (f + 1) set = [set] := by
  rw [dv, if_neg h, hc]
theorem dv_cut {E : List Ed} {f : Nat} {set : List Nat} {v : Nat} (h : ¬ set.length < 2) (hc : cutAt E set = some v) : dv E (f + 1) set = (comps E (wo set v)).flatMap fun p => dv E f (side set p v) := by
  rw [dv, if_neg h, hc]
theorem side_snoc (l p : List Nat) (v x : Nat) : side (l ++ [x]) p v = if x = v ∨ x ∈ p then side l p v ++ [x] else side l p v := by
  unfold side
  rw [List.filter_append]
  split
  · next h => rcases h with h | h <;> simp [h]
  · next h => simp [not_or.1 h]
def cdA (E : List Ed) (set l : List Nat) : Option Nat := l.find? fun v => decide (2 ≤ (comps E (wo set v)).length)
theorem cdA_no {E : List Ed} {set l : List Nat} {x : Nat} (h : (comps E (wo set x)).length < 2) : cdA E set (x :: l) = cdA E set l := by
  unfold cdA
  rw [List.find?_cons_of_neg (by simp; omega)]
theorem cdA_yes {E : List Ed} {set l : List Nat} {x : Nat} (h : ¬ (comps E (wo set x)).length < 2) : cdA E set (x :: l) = some x := by
  unfold cdA
  rw [List.find?_cons_of_pos (by simp; omega)]
theorem fm_len {α β : Type} (f : α → List β) (L : List α) (q : Nat) : ((L.take q).flatMap f).length ≤ (L.flatMap f).length := by
  conv => rhs; rw [← List.take_append_drop q L, List.flatMap_append, List.length_append]
  omega
end Ge
end Go.Proofs.YtjoomgojnpcbeaaDoor
end

section
namespace Go.Proofs.YtjoomgojnpcbeaaDoor
open Go Go.RowKit Gh
set_option maxRecDepth 100000
structure LI (W : World) (base : Nat) (v : Value) (ls : List SLc) : Prop where
  outer : W.ownsRow base 31 1 v ls.length (flat 1 slcell ls)
  inner : ∀ s ∈ ls, W.ownsRow 0 3 1 (.slice s.A s.xs.length s.c) s.xs.length (flat 1 icell s.xs)
section
variable {W W' : World} {base : Nat} {v : Value} {ls : List SLc}
theorem LI.none_ (W : World) (base : Nat) : LI W base (.slice none 0 0) [] := ⟨own_nil _ _ _ _ _, fun s h => absurd h (by simp)⟩
theorem LI.below (h : LI W base v ls) (hb : Below W.heap.size W W') : LI W' base v ls := ⟨own_below h.outer hb, fun s hs => own_below (h.inner s hs) hb⟩
theorem LI.low {base' : Nat} (h : LI W base v ls) (hb : base' ≤ base) : LI W base' v ls := ⟨own_base h.outer hb, h.inner⟩
theorem LI.app (h : LI W base v ls) {v' : Value} {ls2 : List SLc} (hi : ∀ s ∈ ls2, W.ownsRow 0 3 1 (.slice s.A s.xs.length s.c) s.xs.length (flat 1 icell s.xs)) (ho : W'.ownsRow base 31 1 v' (ls.length + ls2.length) (flat 1 slcell (ls ++ ls2))) (hg : W.grownBy W' v.ownBlock) : LI W' base v' (ls ++ ls2) := by
  refine ⟨by rw [List.length_append]; exact ho, fun t ht => ?_⟩
  have hk : ∀ t : SLc, W.ownsRow 0 3 1 (.slice t.A t.xs.length t.c) t.xs.length (flat 1 icell t.xs) → W'.ownsRow 0 3 1 (.slice t.A t.xs.length t.c) t.xs.length (flat 1 icell t.xs) := fun t h1 => h1.kept hg (own_ne h1 h.outer (by decide))
  rcases List.mem_append.1 ht with ht | ht
  · exact hk t (h.inner t ht)
  · exact hk t (hi t ht)
theorem LI.sl_ (h : LI W base v ls) : ∃ A c, v = .slice A ls.length c ∧ Sl 1 slcell W W.heap.size A ls := own_slice (by decide) h.outer
theorem LI.one {b : Nat} {s : SLc} (h : Box W b #[.slice s.A s.xs.length s.c] 31) (hb : base ≤ b) (hs : W.ownsRow 0 3 1 (.slice s.A s.xs.length s.c) s.xs.length (flat 1 icell s.xs)) : LI W base (.slice (some ⟨b, 0, none⟩) 1 1) [s] :=
  ⟨⟨rfl, .inr ⟨b, 1, _, rfl, hb, h, Nat.le_refl _, by unfold maxLen; omega, rfl, rfl⟩⟩, fun t ht => by rw [List.mem_singleton.1 ht]; exact hs⟩
end
def RetD (E : List Ge.Ed) (f : Nat) (set : List Nat) (w : World) (e : Ending) (w' : World) : Prop :=
  ∃ (v : Value) (ls : List SLc), e = .returned v ∧ LI w' w.heap.size v ls ∧ ls.map (·.xs) = (Ge.dv E f set).map bsl ∧ Below w.heap.size w w'
def DivOk (EA : Option Addr) (ec : Nat) (E : List Ge.Ed) (f : Nat) : Prop :=
  ∀ (SA : Option Addr) (sc : Nat) (set : List Nat) (w : World), Sl 2 ecell w w.heap.size EA E → w.ownsRow 0 3 1 (.slice SA set.length sc) set.length (flat 1 icell (bsl set)) → set.Nodup → set.length ≤ f → set.length ≤ 512 → Calls Tryd.prog 50 #[.slice EA E.length ec, .slice SA set.length sc] w (RetD E f set w)
set_option maxHeartbeats 16000000 in
theorem rDivide_small {EA : Option Addr} {ec : Nat} {E : List Ge.Ed} {f : Nat} (SA : Option Addr) (sc : Nat) (set : List Nat) (w : World) (h : set.length < 2) : Calls Tryd.prog 50 #[.slice EA E.length ec, .slice SA set.length sc] w (RetD E f set w) := by
  have HD := Lib.hid (Ge.dv_small (E := E) (f := f) h)
  have q : decide ((set.length : Int) < 2) = true := decide_eq_true (by omega)
  clear h
  go_enter Tryd.func50, Tryd.ntmps50
  go_wp2_with fail
  go_ret
  exact ⟨_, [], rfl, LI.none_ _ _, by rw [HD.out]; rfl, Below.refl _ _⟩
set_option maxHeartbeats 64000000 in
theorem rDivide_step {EA : Option Addr} {ec : Nat} {E : List Ge.Ed} {f : Nat} (hEl : E.length ≤ 1000000) (IH : DivOk EA ec E f) (SA : Option Addr) (sc : Nat) (set : List Nat) (w : World) (hE : Sl 2 ecell w w.heap.size EA E) (hS : w.ownsRow 0 3 1 (.slice SA set.length sc) set.length (flat 1 icell (bsl set))) (hnd : set.Nodup) (hf : set.length ≤ f + 1) (hl : set.length ≤ 512) (h2 : ¬ set.length < 2) : Calls Tryd.prog 50 #[.slice EA E.length ec, .slice SA set.length sc] w (RetD E (f + 1) set w) := by
  obtain ⟨i0, hi, hz0, hz1, hz2⟩ := info_parts intInfoD
  have Hi := Lib.hid hi; have Hz0 := Lib.hid hz0; have Hz1 := Lib.hid hz1; have Hz2 := Lib.hid hz2
  obtain ⟨il, hil, hzl0, hzl1, hzl2⟩ := info_parts slInfo
  have Hil := Lib.hid hil; have Hzl0 := Lib.hid hzl0; have Hzl1 := Lib.hid hzl1; have Hzl2 := Lib.hid hzl2
  clear hi hz0 hz1 hz2 hil hzl0 hzl1 hzl2
  have HN := Lib.hid hnd
  have HIH := Lib.hid IH
  have H2 := Lib.hid h2
  have HC0 : Hid (Ge.cdA E set (set.drop 0) = Ge.cutAt E set) := Lib.hid rfl
  have q : decide ((set.length : Int) < 2) = false := decide_eq_false (by omega)
  clear hnd IH h2
  go_enter Tryd.func50, Tryd.ntmps50
  go_wp2_with fail
  clear q
  refine wp_loop_mrg [5, 6, 7, 8, 9, 10, 14, 15, 16, 17, 18, 19, 20, 21, 22, 23, 24, 25, 26, 27, 28, 29, 30, 31, 32, 33, 34, 35, 36, 37, 38, 39, 40, 41, 42, 43, 44, 45, 46, 47, 48, 49, 50, 51, 52, 53, 54, 55, 56, 57, 58, 59, 60, 61, 62, 63, 64, 65, 66, 67, 68, 69, 70, 71, 72, 73, 74, 75] (fun mm f0 ds W0 => ds = [] ∧ ∃ (k : Nat), f0 5 = .int .i64 k ∧ set.length - k = mm ∧ k ≤ set.length ∧ Below w.heap.size w W0 ∧ Hid (Ge.cdA E set (set.drop k) = Ge.cutAt E set)) set.length ⟨rfl, 0, rfl, rfl, Nat.zero_le _, Below.refl _ _, HC0⟩ ?_
  clear HC0
  intro c1' T1' hc2 hT2
  rintro mm f0 ds W0 ⟨rfl, k, hf5, rfl, hk, hB0, HC⟩
  replace hc2 := hc2.out
  subst hc2
  replace hT2 := hT2.out
  subst hT2
  generalize hF : mrgF _ 0 _ _ = F
  simp only [mrg_hit, mrg_miss, mrg_end, Nat.reduceBEq, Nat.reduceAdd] at hF
  rw [hf5] at hF
  subst hF
  clear hf5
  have hS0 := (own_sl hS).below hB0
  have hS0 := hS0.more (B' := W0.heap.size) hB0.size
  have hE0 := (hE.below hB0).more (B' := W0.heap.size) hB0.size
  by_cases hkl : k < set.length
  · have x0 : (0 : Int) ≤ (k : Int) := by omega
    have x1 : (k : Int) < (set.length : Int) := by omega
    have q0 : decide ((k : Int) < (set.length : Int)) = true := decide_eq_true x1
    obtain ⟨la, hla, hlb, a0⟩ := hS0.nat_at hkl
    have hvm : set[k] ∈ set := List.getElem_mem hkl
    have HDC : Hid (Ge.cdA E set (set[k] :: set.drop (k + 1)) = Ge.cutAt E set) := Lib.hid (by rw [← List.drop_eq_getElem_cons hkl]; exact HC.out)
    obtain ⟨v, hv⟩ : ∃ v, set[k] = v := ⟨_, rfl⟩
    rw [hv] at a0 HDC hvm
    have HV := Lib.hid hv
    clear hv HC
    have kW := rWithout_ok SA sc set v W0 hS0 (by omega)
    have hwl : (Ge.wo set v).length ≤ set.length := List.length_filter_le _ _
    have HVM := Lib.hid hvm
    obtain ⟨wv, hwv⟩ : ∃ wv, Ge.wo set v = wv := ⟨_, rfl⟩
    rw [hwv] at kW hwl
    have HWV := Lib.hid hwv
    clear hvm hwv
    subst hla
    go_wp2_with fail
    refine kW.mono ?_
    rintro e w2 ⟨WA, wc, rfl, ownW, hb2⟩
    have hB2 := after_ hB0 hb2
    have hE2 := (hE.below hB2).more (B' := w2.heap.size) hB2.size
    have kC := rComps_ok EA ec E WA wc wv w2 hE2 hEl (own_sl ownW) (by omega)
    clear kW ownW hE2
    go_wp2_with fail
    refine kC.mono ?_
    rintro e w3 ⟨vP, ps, rfl, loP, hps, hb3⟩
    have hB3 := after_ hB2 hb3
    have HPS := Lib.hid hps
    have hpl : ps.length = (Ge.comps E wv).length := by
      have := congrArg List.length hps
      rw [List.length_map, List.length_map] at this
      exact this
    have hpl2 : ps.length ≤ 512 := by
      have := (Ge.compF_len (E := E) (vs := wv) wv.length (Nat.le_refl _)).1
      rw [List.take_length] at this
      show ps.length ≤ 512
      have h4 : (Ge.comps E wv).length ≤ wv.length := this
      omega
    obtain ⟨PA, pc, rfl, hPo⟩ := own_slice (by decide) loP.outer
    have HPL := Lib.hid hpl
    clear kC hps hpl
    by_cases hp2 : ps.length < 2
    · have qp : decide ((ps.length : Int) < 2) = true := decide_eq_true (by omega)
      have HC2 : Hid (Ge.cdA E set (set.drop (k + 1)) = Ge.cutAt E set) := Lib.hid (by rw [← HDC.out, Ge.cdA_no (by rw [HWV.out, ← HPL.out]; exact hp2)])
      clear HDC
      go_wp2_with fail
      exact ⟨_, rfl, rfl, set.length - (k + 1), by omega, by trivial, k + 1, rfl, rfl, hkl, hB3, HC2⟩
    have qp : decide ((ps.length : Int) < 2) = false := decide_eq_false (by omega)
    have HDV : Hid (Ge.dv E (f + 1) set = (Ge.comps E wv).flatMap fun p => Ge.dv E f (Ge.side set p v)) := Lib.hid (by
      rw [← HWV.out]
      exact Ge.dv_cut H2.out (by rw [← HDC.out, Ge.cdA_yes (by rw [HWV.out, ← HPL.out]; exact hp2)]))
    have HSL : Hid (∀ p ∈ Ge.comps E wv, (Ge.side set p v).length < set.length) := Lib.hid (by
      rw [← HWV.out]
      exact fun p hp => Ge.side_lt hp (by rw [HWV.out, ← HPL.out]; omega))
    have hdl := Ge.dv_len (E := E) (f + 1) set HN.out
    rw [HDV.out] at hdl
    have hFM := fun q => Nat.le_trans (Ge.fm_len (fun p => Ge.dv E f (Ge.side set p v)) (Ge.comps E wv) q) hdl
    have HFM := Lib.hid hFM
    have hPL : ∀ p ∈ Ge.comps E wv, p.length ≤ 512 := fun p hp => by
      have := (Ge.comps_sub hp).length_le
      omega
    have HPLN := Lib.hid hPL
    clear HDC hdl hFM hp2 hPL
    generalize Ge.comps E wv = cs at *
    go_wp2_with fail
    refine wp_loop_mrg [7, 8, 9, 10, 31, 32, 33, 34, 35, 36, 37, 38, 39, 40, 41, 42, 43, 44, 45, 46, 47, 48, 49, 50, 51, 52, 53, 54, 55, 56, 57, 58, 59, 60, 61, 62, 63, 64, 65, 66, 67, 68, 69, 70, 71, 72, 73, 74] (fun mm f0 ds W1 => ds = [] ∧ ∃ (q : Nat) (ls : List SLc), f0 8 = .int .i64 q ∧ ps.length - q = mm ∧ q ≤ ps.length ∧ Below w3.heap.size w3 W1 ∧ LI W1 w3.heap.size (f0 7) ls ∧ Hid (ls.map (·.xs) = ((cs.take q).flatMap fun p => Ge.dv E f (Ge.side set p v)).map bsl)) ps.length ⟨rfl, 0, [], rfl, rfl, Nat.zero_le _, Below.refl _ _, LI.none_ _ _, Lib.hid rfl⟩ ?_
    clear qp
    intro c2' T2' hc2 hT2
    rintro mm f0 ds W1 ⟨rfl, q, ls, hf8, rfl, hq, hB1, li, HLS⟩
    replace hc2 := hc2.out
    subst hc2
    replace hT2 := hT2.out
    subst hT2
    generalize hF : mrgF _ 0 _ _ = F
    simp only [mrg_hit, mrg_miss, mrg_end, Nat.reduceBEq, Nat.reduceAdd] at hF
    rw [hf8] at hF
    subst hF
    clear hf8
    generalize f0 7 = vO at *
    have hW1 := hB3.trans (hB1.mono hB3.size)
    by_cases hql : q < ps.length
    · have y0 : (0 : Int) ≤ (q : Int) := by omega
      have y1 : (q : Int) < (ps.length : Int) := by omega
      have q1 : decide ((q : Int) < (ps.length : Int)) = true := decide_eq_true y1
      have hqc : q < cs.length := by have := HPL.out; omega
      have HNX : Hid ((cs.take (q + 1)).flatMap (fun p => Ge.dv E f (Ge.side set p v)) = ((cs.take q).flatMap fun p => Ge.dv E f (Ge.side set p v)) ++ Ge.dv E f (Ge.side set cs[q] v)) := Lib.hid (by rw [List.take_succ_eq_append_getElem hqc, List.flatMap_append]; simp)
      have hsl := HSL.out _ (List.getElem_mem hqc)
      have hxs : ps[q].xs = bsl cs[q] := by
        have h1 : (ps.map (·.xs))[q]? = (cs.map bsl)[q]? := by rw [HPS.out]
        rw [List.getElem?_map, List.getElem?_map, List.getElem?_eq_getElem hql, List.getElem?_eq_getElem hqc] at h1
        exact Option.some.inj h1
      have hfm := HFM.out (q + 1)
      rw [HNX.out, List.length_append] at hfm
      have hlsl : ls.length = ((cs.take q).flatMap fun p => Ge.dv E f (Ge.side set p v)).length := by
        have := congrArg List.length HLS.out
        rw [List.length_map, List.length_map] at this
        exact this
      have hPq := loP.inner _ (List.getElem_mem hql)
      obtain ⟨lp, hlp, hlpb, p0⟩ := ((hPo.below hB1).more (B' := W1.heap.size) hB1.size).one_at hql
      have hpln := HPLN.out _ (List.getElem_mem hqc)
      generalize ps[q] = sp at *
      obtain ⟨pA, pcc, pxs⟩ := sp
      dsimp only at hxs
      subst hxs
      simp only [slcell, bsl_len] at p0
      dsimp only at hPq
      rw [bsl_len] at hPq
      generalize cs[q] = p at *
      have HSB := Lib.hid hsl
      clear hsl
      subst hlp
      go_wp2_with fail
      refine wp_loop_mrg [9, 10, 37, 38, 39, 40, 41, 42, 43, 44, 45, 46, 47, 48, 49, 50, 51, 52, 53, 54, 55, 56, 57, 58, 59, 60, 61, 62, 63, 64, 65, 66, 67, 68, 69] (fun mm f0 ds W2 => ds = [] ∧ ∃ (j : Nat), f0 10 = .int .i64 j ∧ set.length - j = mm ∧ j ≤ set.length ∧ Below W1.heap.size W1 W2 ∧ W2.ownsRow W1.heap.size 3 1 (f0 9) (Ge.side (set.take j) p v).length (flat 1 icell (bsl (Ge.side (set.take j) p v)))) set.length ⟨rfl, 0, rfl, rfl, Nat.zero_le _, Below.refl _ _, own_nil _ _ _ 1 icell⟩ ?_
      intro c3' T3' hc2 hT2
      rintro mm f0 ds W2 ⟨rfl, j, hf10, rfl, hj, hB2', ownT⟩
      replace hc2 := hc2.out
      subst hc2
      replace hT2 := hT2.out
      subst hT2
      generalize hF : mrgF _ 0 _ _ = F
      simp only [mrg_hit, mrg_miss, mrg_end, Nat.reduceBEq, Nat.reduceAdd] at hF
      rw [hf10] at hF
      subst hF
      clear hf10
      generalize f0 9 = vT at *
      have hle : (Ge.side (set.take j) p v).length ≤ j := by
        unfold Ge.side
        refine Nat.le_trans (List.length_filter_le _ _) ?_
        rw [List.length_take]; omega
      have hW2 := hW1.trans (hB2'.mono hW1.size)
      have hS2 := ((own_sl hS).below hW2).more (B' := W2.heap.size) hW2.size
      by_cases hjl : j < set.length
      · have z0 : (0 : Int) ≤ (j : Int) := by omega
        have z1 : (j : Int) < (set.length : Int) := by omega
        have q2 : decide ((j : Int) < (set.length : Int)) = true := decide_eq_true z1
        obtain ⟨lb, hlb2, hlbb, c0⟩ := hS2.one_at (k := j) (by rw [bsl_len]; exact hjl)
        obtain ⟨lc, hlc, hlcb, d0⟩ := hS2.one_at (k := k) (by rw [bsl_len]; exact hkl)
        obtain rfl := Option.some.inj hlb2
        obtain rfl := Option.some.inj hlc
        have e1 : (bsl set)[j]'(by rw [bsl_len]; exact hjl) = ((set[j] : Nat) : Int) := by simp [bsl]
        have e2 : (bsl set)[k]'(by rw [bsl_len]; exact hkl) = ((v : Nat) : Int) := by rw [← HV.out]; simp [bsl]
        simp only [icell] at c0 d0
        rw [e1] at c0
        rw [e2] at d0
        have HSN : Hid (Ge.side (set.take (j + 1)) p v = if set[j] = v ∨ set[j] ∈ p then Ge.side (set.take j) p v ++ [set[j]] else Ge.side (set.take j) p v) := Lib.hid (by rw [List.take_succ_eq_append_getElem hjl, Ge.side_snoc])
        obtain ⟨x, hx⟩ : ∃ x, set[j] = x := ⟨_, rfl⟩
        rw [hx] at c0 HSN
        have HX : Hid ((bsl set)[j]'(by rw [bsl_len]; exact hjl) = (x : Int)) := Lib.hid (by rw [← hx]; simp [bsl])
        clear hx e1 e2
        generalize Ge.side (set.take j) p v = os at *
        have pc2 : W2.cell? (lp.add q) = some (.slice pA p.length pcc) := by rw [hB2'.cell hlpb]; exact p0
        have pb2 : (lp.add q).block < W2.heap.size := Nat.lt_of_lt_of_le hlpb hB2'.size
        by_cases hxv : x = v
        · have qe : ((x : Int) == (v : Int)) = true := by simpa using (by omega : (x : Int) = (v : Int))
          have HS2 : Hid (Ge.side (set.take (j + 1)) p v = os ++ [x]) := Lib.hid (by rw [HSN.out, if_pos (.inl hxv)])
          clear HSN hxv
          have hund : undef = Value.tuple #[] := rfl
          go_wp2_with fail
          refine wp_region_kept W2.heap.size W2 (by kernel_rfl) (by kernel_rfl) (Below.refl _ _) ?_
          repeat (go_big_quiet_step (fail))
          refine wpQuiet_nil ?_
          rintro w5 ⟨⟨w5x, hb5⟩, hw5⟩
          dsimp only at hw5
          subst hw5
          have hB5 := after_ hB2' hb5
          have ownT5 := own_below ownT hb5
          have hW5 := after_ hW2 hb5
          obtain ⟨ld, hld, hldb, f0'⟩ := (((own_sl hS).below hW5).more (B' := w5.heap.size) hW5.size).one_at (k := j) (by rw [bsl_len]; exact hjl)
          obtain rfl := Option.some.inj hld
          simp only [icell] at f0'
          rw [HX.out] at f0'
          clear c0 d0
          go_wp2_with (at_builtin; go_loud (
            refine wpList_push (w0 := W1) (cell := icell) (y := ((x : Nat) : Int)) rfl _ _ _ rfl W1.heap.size W1.heap.size 3 i0 _ 8 Tryd.underlying31 Hi.out Hz0.out Hz1.out Hz2.out rfl (by decide) _ _ _ rfl ownT5 _ _ rfl _ rfl (fun _ => rfl) (by unfold maxLen; omega) (by omega) hB5.size (Nat.le_refl _) hB5 ?_
            intro v8 w8 hown8 hb8 hg8))
          first
            | exact ⟨_, rfl, rfl, set.length - (j + 1), by omega, by trivial, j + 1, rfl, rfl, hjl, hb8, by rw [HS2.out, List.length_append, bsl_snoc]; exact hown8⟩
            | exact ⟨rfl, set.length - (j + 1), by omega, j + 1, rfl, rfl, hjl, by rw [HS2.out, List.length_append, bsl_snoc]; exact hown8⟩
        · have qe : ((x : Int) == (v : Int)) = false := by simpa using (by omega : ¬ (x : Int) = (v : Int))
          have hP2 := own_sl (own_below (own_below hPq hB1) hB2')
          have kI := fun (u : Kept W2.heap.size W2) => (rIn_ok pA pcc p x u.val ((hP2.below u.h).more u.h.size) (by omega)).mono (R' := fun e w' => e = .returned (.bool (decide (x ∈ p))) ∧ Below u.val.heap.size u.val w') (by rintro e w' ⟨rfl, rfl⟩; exact ⟨rfl, Below.refl _ _⟩)
          have hund : undef = Value.tuple #[] := rfl
          by_cases hm : x ∈ p
          · rw [decide_eq_true hm] at kI
            have KI := Lib.hid kI
            have HS2 : Hid (Ge.side (set.take (j + 1)) p v = os ++ [x]) := Lib.hid (by rw [HSN.out, if_pos (.inr hm)])
            clear HSN hxv hm kI hP2
            go_wp2_with fail
            refine wp_region_kept W2.heap.size W2 (by kernel_rfl) (by kernel_rfl) (Below.refl _ _) ?_
            repeat (go_big_quiet_step ((go_at_call 27; with_reducible exact Kept.calls (Nat.le_refl _) (KI.out _))))
            refine wpQuiet_nil ?_
            rintro w5 ⟨⟨w5x, hb5⟩, hw5⟩
            dsimp only at hw5
            subst hw5
            have hB5 := after_ hB2' hb5
            have ownT5 := own_below ownT hb5
            have hW5 := after_ hW2 hb5
            obtain ⟨ld, hld, hldb, f0'⟩ := (((own_sl hS).below hW5).more (B' := w5.heap.size) hW5.size).one_at (k := j) (by rw [bsl_len]; exact hjl)
            obtain rfl := Option.some.inj hld
            simp only [icell] at f0'
            rw [HX.out] at f0'
            clear c0 d0
            go_wp2_with (at_builtin; go_loud (
              refine wpList_push (w0 := W1) (cell := icell) (y := ((x : Nat) : Int)) rfl _ _ _ rfl W1.heap.size W1.heap.size 3 i0 _ 8 Tryd.underlying31 Hi.out Hz0.out Hz1.out Hz2.out rfl (by decide) _ _ _ rfl ownT5 _ _ rfl _ rfl (fun _ => rfl) (by unfold maxLen; omega) (by omega) hB5.size (Nat.le_refl _) hB5 ?_
              intro v8 w8 hown8 hb8 hg8))
            first
              | exact ⟨_, rfl, rfl, set.length - (j + 1), by omega, by trivial, j + 1, rfl, rfl, hjl, hb8, by rw [HS2.out, List.length_append, bsl_snoc]; exact hown8⟩
              | exact ⟨rfl, set.length - (j + 1), by omega, j + 1, rfl, rfl, hjl, by rw [HS2.out, List.length_append, bsl_snoc]; exact hown8⟩
          · rw [decide_eq_false hm] at kI
            have KI := Lib.hid kI
            have HS2 : Hid (Ge.side (set.take (j + 1)) p v = os) := Lib.hid (by rw [HSN.out, if_neg (by rintro (h | h) <;> contradiction)])
            clear HSN hxv hm kI hP2
            go_wp2_with fail
            refine wp_region_kept W2.heap.size W2 (by kernel_rfl) (by kernel_rfl) (Below.refl _ _) ?_
            repeat (go_big_quiet_step ((go_at_call 27; with_reducible exact Kept.calls (Nat.le_refl _) (KI.out _))))
            refine wpQuiet_nil ?_
            rintro w5 ⟨⟨w5x, hb5⟩, hw5⟩
            dsimp only at hw5
            subst hw5
            have hB5 := after_ hB2' hb5
            have ownT5 := own_below ownT hb5
            go_wp2_with fail
            first
              | exact ⟨_, rfl, rfl, set.length - (j + 1), by omega, by trivial, j + 1, rfl, rfl, hjl, hB5, by rw [HS2.out]; exact ownT5⟩
              | exact ⟨rfl, set.length - (j + 1), by omega, j + 1, rfl, rfl, hjl, by rw [HS2.out]; exact ownT5⟩
      · obtain rfl : j = set.length := by omega
        have q2 : decide ((set.length : Int) < (set.length : Int)) = false := decide_eq_false (by omega)
        rw [List.take_length] at ownT hle
        have hnd : (Ge.side set p v).Nodup := HN.out.filter _
        have hsl := HSB.out
        generalize Ge.side set p v = sd at *
        have ownT2 := ownT
        rw [← bsl_len] at ownT2
        obtain ⟨TA, tc, rfl, -⟩ := own_slice (by decide) ownT2
        rw [bsl_len] at *
        have kD := HIH.out TA tc sd W2 ((hE.below hW2).more hW2.size) (own_base ownT (Nat.zero_le _)) hnd (by omega) (by omega)
        clear ownT2 hnd
        go_wp2_with fail
        refine kD.mono ?_
        rintro e w5 ⟨vD, ls2, rfl, liD, hls2, hb5⟩
        have hB5 := after_ hB2' hb5
        have li5 := (li.below hB2').below hb5
        have hB6 := hB1.trans (hB5.mono hB1.size)
        have hl2 : ls2.length = (Ge.dv E f sd).length := by
          have := congrArg List.length hls2
          rw [List.length_map, List.length_map] at this
          exact this
        have hsum : ls.length + ls2.length ≤ 512 := by omega
        have HL7 : Hid ((ls ++ ls2).map (·.xs) = ((cs.take (q + 1)).flatMap fun p => Ge.dv E f (Ge.side set p v)).map bsl) := Lib.hid (by rw [HNX.out, List.map_append, List.map_append, HLS.out, hls2])
        obtain ⟨DA, dc, rfl, hD⟩ := liD.sl_
        have hDi := Lib.hid liD.inner
        clear kD hls2 hl2 hfm hlsl HNX HLS liD ownT
        go_wp2_with (at_builtin; go_loud (
          refine wpList_append_sl _ (w0 := w3) (cell := slcell) rfl _ _ _ rfl w3.heap.size w3.heap.size 31 il _ 24 Tryd.underlying28 Hil.out Hzl0.out Hzl1.out Hzl2.out rfl (by decide) _ ls.length ls rfl li5.outer w5.heap.size DA dc ls2 rfl hD (fun y j => sl_one y j) (by unfold maxLen; omega) (by omega) hB6.size (Nat.le_refl _) hB6 ?_
          intro v7 w7 hown7 hb7 hg7))
        have li7 := li5.app hDi.out hown7 hg7
        exact ⟨_, rfl, rfl, ps.length - (q + 1), by omega, by trivial, q + 1, ls ++ ls2, rfl, rfl, hql, hb7, li7, HL7⟩
    · obtain rfl : q = ps.length := by omega
      have q1 : decide ((ps.length : Int) < (ps.length : Int)) = false := decide_eq_false (by omega)
      have HL9 : Hid (ls.map (·.xs) = (Ge.dv E (f + 1) set).map bsl) := Lib.hid (by rw [HDV.out, HLS.out, HPL.out, List.take_length])
      go_wp2_with fail
      go_ret
      exact ⟨vO, ls, rfl, li.low hB3.size, HL9.out, hW1⟩
  · obtain rfl : k = set.length := by omega
    have q0 : decide ((set.length : Int) < (set.length : Int)) = false := decide_eq_false (by omega)
    have HD1 : Hid (Ge.dv E (f + 1) set = [set]) := Lib.hid (Ge.dv_one H2.out (by rw [← HC.out, List.drop_length]; rfl))
    obtain ⟨U, HU, xU, hbU, hsU⟩ := boxes1 W0 #[.slice SA set.length sc] 31
    have hU := HU.out
    have ownS := own_below (own_below hS hB0) hbU
    have hBU := after_ hB0 hbU
    rw [← bsl_len] at xU ownS
    have li := LI.one (s := ⟨SA, sc, bsl set⟩) xU (Nat.le_refl W0.heap.size) ownS
    have LIh := Lib.hid li
    clear hsU xU ownS li HC
    go_wp2_with fail
    go_ret
    exact ⟨_, [⟨SA, sc, bsl set⟩], rfl, LIh.out.low hB0.size, by rw [HD1.out]; rfl, hBU⟩
theorem rDivide_ok (EA : Option Addr) (ec : Nat) (E : List Ge.Ed) (hEl : E.length ≤ 1000000) : ∀ f, DivOk EA ec E f
  | 0 => fun SA sc set w hE hS hn hf hl => rDivide_small SA sc set w (by omega)
  | f + 1 => fun SA sc set w hE hS hn hf hl => by
    by_cases h : set.length < 2
    · exact rDivide_small SA sc set w h
    · exact rDivide_step hEl (rDivide_ok EA ec E hEl f) SA sc set w hE hS hn hf hl h
end Go.Proofs.YtjoomgojnpcbeaaDoor
end
