/- A bundle of texts: Re4. -/
import Derived.Test.YtjoomgojnpcbeaaDoorI12
import Derived.Test.YtjoomgojnpcbeaaDoorI17
section
namespace Go.Proofs.YtjoomgojnpcbeaaDoor
open Go Go.RowKit Gh
set_option maxRecDepth 100000
namespace Ge
theorem prt_len {E : List Ed} {vs : List Nat} {v : Nat} (hv : v ∈ vs) : (prt E vs v).length ≤ vs.length := by
  obtain ⟨k, h, -⟩ := bfs_inv (E := E) (vs.length + 1) 0 [v] (BfI.start hv) (by omega)
  exact h.len
theorem inp_len (vs p : List Nat) : (inp vs p).length ≤ vs.length := List.length_filter_le _ _
theorem compF_len {E : List Ed} {vs : List Nat} : ∀ k, k ≤ vs.length → (compF E vs (vs.take k)).1.length ≤ k ∧ (compF E vs (vs.take k)).2.length ≤ k * vs.length
  | 0, _ => ⟨Nat.zero_le _, Nat.zero_le _⟩
  | k + 1, hk => by
    obtain ⟨h1, h2⟩ := compF_len (E := E) (vs := vs) k (by omega)
    have h3 := prt_len (E := E) (List.getElem_mem (show k < vs.length by omega))
    rw [List.take_succ_eq_append_getElem (by omega), compF_snoc, Nat.add_mul, Nat.one_mul]
    unfold compS
    split
    · exact ⟨by omega, by omega⟩
    · rw [List.length_append, List.length_append, List.length_singleton]
      exact ⟨by omega, by omega⟩
theorem inp_snoc (l p : List Nat) (x : Nat) : inp (l ++ [x]) p = if x ∈ p then inp l p ++ [x] else inp l p := by
  unfold inp
  rw [List.filter_append]
  split
  · next h => simp [h]
  · next h => simp [h]
end Ge
structure CmS (w W : World) (vO vS : Value) (ls : List SLc) (seen : List Nat) : Prop where
  bel : Below w.heap.size w W
  lo : LO W w.heap.size vO ls
  os : W.ownsRow w.heap.size 3 1 vS seen.length (flat 1 icell (bsl seen))
  ap : ∀ s ∈ ls, ∀ q, (Value.slice s.A s.xs.length s.c).ownBlock = some q → vS.ownBlock ≠ some q
section
variable {w W W' : World} {vO vS : Value} {ls : List SLc} {seen : List Nat}
theorem CmS.app (h : CmS w W vO vS ls seen) {v' : Value} {ys : List Nat} (ho : W'.ownsRow w.heap.size 3 1 v' (seen.length + ys.length) (flat 1 icell (bsl seen) ++ flat 1 icell (bsl ys))) (hg : W.grownBy W' vS.ownBlock) (hat : v'.ownBlock = vS.ownBlock ∨ v'.ownBlock = some W.heap.size) : CmS w W' vO v' ls (seen ++ ys) := by
  refine ⟨h.bel.grown hg h.bel.size (fun q e => (h.os.lt q e).1), ⟨h.lo.outer.kept hg (own_ne h.lo.outer h.os (by decide)), fun s hs => (h.lo.inner s hs).kept hg ?_⟩, ?_, fun s hs q e => ?_⟩
  · cases hq : (Value.slice s.A s.xs.length s.c).ownBlock with
    | none => exact .inl rfl
    | some q => exact .inr (fun e => h.ap s hs q hq e.symm)
  · rw [List.length_append, show bsl (seen ++ ys) = bsl seen ++ bsl ys from List.map_append, flat_append]
    exact ho
  · rcases hat with h1 | h1
    · rw [h1]; exact h.ap s hs q e
    · rw [h1]
      intro e2
      have := ((h.lo.inner s hs).lt q e).2
      have := Option.some.inj e2
      omega
theorem CmS.next (h : CmS w W vO vS ls seen) (hb : Below W.heap.size W W') : CmS w W' vO vS ls seen := ⟨after_ h.bel hb, h.lo.below hb, own_below h.os hb, h.ap⟩
end
set_option maxHeartbeats 64000000 in
theorem rComps_ok (EA : Option Addr) (ec : Nat) (E : List Ge.Ed) (VA : Option Addr) (vc : Nat) (vs : List Nat) (w : World) (hE : Sl 2 ecell w w.heap.size EA E) (hEl : E.length ≤ 1000000) (hV : Sl 1 icell w w.heap.size VA (bsl vs)) (hvl : vs.length ≤ 1000) :
    Calls Tryd.prog 15 #[.slice EA E.length ec, .slice VA vs.length vc] w fun e w' => ∃ (v : Value) (ls : List SLc), e = .returned v ∧ LO w' w.heap.size v ls ∧ ls.map (·.xs) = (Ge.comps E vs).map bsl ∧ Below w.heap.size w w' := by
  obtain ⟨i0, hi, hz0, hz1, hz2⟩ := info_parts intInfoD
  have Hi := Lib.hid hi; have Hz0 := Lib.hid hz0; have Hz1 := Lib.hid hz1; have Hz2 := Lib.hid hz2
  obtain ⟨il, hil, hzl0, hzl1, hzl2⟩ := info_parts slInfo
  have Hil := Lib.hid hil; have Hzl0 := Lib.hid hzl0; have Hzl1 := Lib.hid hzl1; have Hzl2 := Lib.hid hzl2
  clear hi hz0 hz1 hz2 hil hzl0 hzl1 hzl2
  have st0 : CmS w w (.slice none 0 0) (.slice none 0 0) [] (Ge.compF E vs (vs.take 0)).2 := ⟨Below.refl _ _, LO.none_ _ _, own_nil _ _ _ 1 icell, fun s h => absurd h (by simp)⟩
  go_enter Tryd.func15, Tryd.ntmps15
  go_wp2_with fail
  refine wp_loop_mrg [5, 6, 7, 8, 9, 10, 11, 12, 13, 14, 15, 16, 17, 18, 19, 20, 21, 22, 23, 24, 25, 26, 27, 28, 29, 30, 31, 32, 33, 34, 35, 36, 37, 38, 39, 40, 41, 42, 43, 44, 45, 46, 47, 48, 49, 50, 51, 52, 53, 54, 55, 56, 57, 58, 59, 60, 61, 62, 63, 64, 65, 66, 67, 68, 69, 70, 71, 72, 73, 74, 75, 76, 77, 78, 79, 80, 81, 82, 83, 84, 85, 86, 87, 88, 89] (fun mm f ds W0 => ds = [] ∧ ∃ (k : Nat) (ls : List SLc), f 7 = .int .i64 k ∧ vs.length - k = mm ∧ k ≤ vs.length ∧ CmS w W0 (f 5) (f 6) ls (Ge.compF E vs (vs.take k)).2 ∧ ls.map (·.xs) = (Ge.compF E vs (vs.take k)).1.map bsl) vs.length ⟨rfl, 0, [], rfl, rfl, Nat.zero_le _, st0, rfl⟩ ?_
  clear st0
  intro c1' T1' hc2 hT2
  rintro mm f ds W0 ⟨rfl, k, ls, hf7, rfl, hk, st, hls⟩
  replace hc2 := hc2.out
  subst hc2
  replace hT2 := hT2.out
  subst hT2
  generalize hF : mrgF _ 0 _ _ = F
  simp only [mrg_hit, mrg_miss, mrg_end, Nat.reduceBEq, Nat.reduceAdd] at hF
  rw [hf7] at hF
  subst hF
  clear hf7
  generalize f 5 = vO at *
  generalize f 6 = vS at *
  have hV0 := (hV.below st.bel).more st.bel.size
  have hE0 := (hE.below st.bel).more st.bel.size
  obtain ⟨hc1, hc2⟩ := Ge.compF_len (E := E) (vs := vs) k hk
  by_cases hkl : k < vs.length
  · have x0 : (0 : Int) ≤ (k : Int) := by omega
    have x1 : (k : Int) < (vs.length : Int) := by omega
    have q0 : decide ((k : Int) < (vs.length : Int)) = true := decide_eq_true x1
    obtain ⟨la, hla, hlb, a0⟩ := hV0.nat_at hkl
    have hvm : vs[k] ∈ vs := List.getElem_mem hkl
    have HNX : Hid (Ge.compF E vs (vs.take (k + 1)) = Ge.compS E vs (Ge.compF E vs (vs.take k)) vs[k]) := Lib.hid (by rw [List.take_succ_eq_append_getElem hkl, Ge.compF_snoc])
    obtain ⟨v, hv⟩ : ∃ v, vs[k] = v := ⟨_, rfl⟩
    rw [hv] at a0 HNX hvm
    have HV := Lib.hid hv
    have hc2 : (Ge.compF E vs (vs.take k)).2.length ≤ 1000000 := by
      have := Nat.mul_le_mul (show k ≤ 1000 by omega) hvl
      omega
    clear hv
    generalize Ge.compF E vs (vs.take k) = cs at *
    obtain ⟨cs, seen⟩ := cs
    dsimp only at st hls hc1 hc2
    have HLS := Lib.hid hls
    have hll : ls.length ≤ 1000 := by
      have := congrArg List.length hls
      rw [List.length_map, List.length_map] at this
      omega
    clear hls hc1
    obtain ⟨SA, sc, rfl, hS⟩ : ∃ A c, vS = .slice A seen.length c ∧ Sl 1 icell W0 W0.heap.size A (bsl seen) := by
      have h2 := st.os
      rw [← bsl_len] at h2
      obtain ⟨A, c, e, h3⟩ := own_slice (by decide) h2
      exact ⟨A, c, by rw [e, bsl_len], h3⟩
    have kI := rIn_ok SA sc seen v W0 hS hc2
    subst hla
    by_cases hm : v ∈ seen
    · rw [decide_eq_true hm] at kI
      have HN2 : Hid (Ge.compF E vs (vs.take (k + 1)) = (cs, seen)) := Lib.hid (by rw [HNX.out]; unfold Ge.compS; rw [if_pos hm])
      clear HNX hm
      go_wp2_with fail
      refine kI.mono ?_
      rintro e w2 ⟨rfl, rfl⟩
      go_wp2_with fail
      exact ⟨_, rfl, rfl, vs.length - (k + 1), by omega, by trivial, k + 1, ls, rfl, rfl, hkl, by rw [HN2.out]; exact st, by rw [HN2.out]; exact HLS.out⟩
    rw [decide_eq_false hm] at kI
    have HN2 : Hid (Ge.compF E vs (vs.take (k + 1)) = (cs ++ [Ge.inp vs (Ge.prt E vs v)], seen ++ Ge.prt E vs v)) := Lib.hid (by rw [HNX.out]; unfold Ge.compS; rw [if_neg hm])
    have hpl := Ge.prt_len (E := E) hvm
    obtain ⟨P, hP⟩ : ∃ P, Ge.prt E vs v = P := ⟨_, rfl⟩
    rw [hP] at HN2 hpl
    have HP : Hid (Ge.bfs E vs (vs.length + 1) 0 [v] = P) := Lib.hid hP
    have BI0 := Lib.hid (Ge.BfI.start (E := E) hvm)
    obtain ⟨U, HU, xU, hbU, hsU⟩ := boxes1 W0 #[.int .i64 (v : Int)] 3
    have HSU := Lib.hid hsU
    have hU := HU.out
    have oU := own_one xU (Nat.le_refl _)
    clear HNX hm hvm hP hsU
    go_wp2_with fail
    refine kI.mono ?_
    rintro e w2 ⟨rfl, rfl⟩
    obtain ⟨la2, hla2, -, a2⟩ := hV0.nat_at hkl
    obtain rfl := Option.some.inj hla2
    rw [HV.out] at a2
    go_wp2_with fail
    clear hU HU kI a0 a2 xU
    refine wp_loop_mrg [8, 9, 10, 11, 31, 32, 33, 34, 35, 36, 37, 38, 39, 40, 41, 42, 43, 44, 45, 46, 47, 48, 49, 50, 51, 52, 53, 54, 55, 56, 57, 58, 59, 60, 61, 62, 63] (fun mm f ds W1 => ds = [] ∧ ∃ (j gp pc : Nat) (p : List Nat), f 9 = .int .i64 j ∧ f 8 = .slice (some ⟨gp, 0, none⟩) p.length pc ∧ vs.length + 1 - j = mm ∧ j ≤ p.length ∧ Hid (Ge.BfI E vs v j p) ∧ Hid (Ge.bfs E vs (vs.length + 1 - j) j p = P) ∧ Below W0.heap.size W0 W1 ∧ W1.ownsRow W0.heap.size 3 1 (.slice (some ⟨gp, 0, none⟩) p.length pc) p.length (flat 1 icell (bsl p))) (vs.length + 1 - 0) ⟨rfl, 0, W0.heap.size, 1, [v], rfl, rfl, rfl, Nat.zero_le _, BI0, HP, hbU, oU⟩ ?_
    clear oU hbU HP BI0
    intro c2' T2' hc2 hT2
    rintro mm f ds W1 ⟨rfl, j, gp, pc, p, hf9, hf8, rfl, hj, HB, HQ, hB1, ownP⟩
    replace hc2 := hc2.out
    subst hc2
    replace hT2 := hT2.out
    subst hT2
    generalize hF : mrgF _ 0 _ _ = F
    simp only [mrg_hit, mrg_miss, mrg_end, Nat.reduceBEq, Nat.reduceAdd] at hF
    rw [hf9, hf8] at hF
    subst hF
    clear hf9 hf8
    have hpn := HB.out.len
    have hSP := own_sl ownP
    have hV1 := (hV0.below hB1).more hB1.size
    have hE1 := (hE0.below hB1).more hB1.size
    by_cases hjl : j < p.length
    · have y0 : (0 : Int) ≤ (j : Int) := by omega
      have y1 : (j : Int) < (p.length : Int) := by omega
      have q1 : decide ((j : Int) < (p.length : Int)) = true := decide_eq_true y1
      obtain ⟨lp, hlp, -, b0⟩ := hSP.nat_at hjl
      have HB2 := Lib.hid (HB.out.next hjl)
      have HQ2 : Hid (Ge.bfs E vs (vs.length + 1 - (j + 1)) (j + 1) (Ge.grow (Ge.nbr E p[j] vs) p) = P) := Lib.hid (by
        have h1 := HQ.out
        rw [show vs.length + 1 - j = (vs.length + 1 - (j + 1)) + 1 by omega, Ge.bfs_next _ hjl] at h1
        exact h1)
      have hgl := HB2.out.len
      have hnl : (Ge.nbr E p[j] vs).length ≤ vs.length := List.length_filter_le _ _
      obtain ⟨u, hu⟩ : ∃ u, p[j] = u := ⟨_, rfl⟩
      rw [hu] at b0 HB2 HQ2 hgl hnl
      clear hu HB HQ
      have kN := rNbr_ok EA ec E (some la) vc vs u W1 hE1 hEl hV1 (by omega)
      generalize Ge.nbr E u vs = nx at *
      obtain rfl := Option.some.inj hlp
      rw [add_base] at b0
      go_wp2_with fail
      clear b0
      refine kN.mono ?_
      rintro e w3 ⟨NA, nc, rfl, ownN, hb3⟩
      have ownP3 := own_below ownP hb3
      have hB3 := hB1.trans (hb3.mono hB1.size)
      have hgpW : gp < W1.heap.size := (ownP.lt gp rfl).2
      have hap : ∀ q, (Value.slice NA nx.length nc).ownBlock = some q → q ≠ gp := fun q e => by have := (ownN.lt q e).1; omega
      clear kN ownP hSP hV1 hE1 hb3 hB1
      go_wp2_with fail
      refine wp_loop_mrg [8, 11, 44, 45, 46, 47, 48, 49, 50, 51, 52, 53, 54, 55, 56, 57, 58, 59, 60, 61, 62, 63] (fun mm f ds W2 => ds = [] ∧ ∃ (m gp pc : Nat) (p' : List Nat), f 11 = .int .i64 m ∧ f 8 = .slice (some ⟨gp, 0, none⟩) p'.length pc ∧ nx.length - m = mm ∧ m ≤ nx.length ∧ Hid (Ge.grow (nx.take m) p = p') ∧ Below W0.heap.size W0 W2 ∧ W2.ownsRow W0.heap.size 3 1 (.slice (some ⟨gp, 0, none⟩) p'.length pc) p'.length (flat 1 icell (bsl p')) ∧ W2.ownsRow W1.heap.size 3 1 (.slice NA nx.length nc) nx.length (flat 1 icell (bsl nx)) ∧ (∀ q, (Value.slice NA nx.length nc).ownBlock = some q → q ≠ gp) ∧ p'.length ≤ p.length + m) nx.length ⟨rfl, 0, gp, pc, p, rfl, rfl, rfl, Nat.zero_le _, Lib.hid rfl, hB3, ownP3, ownN, hap, Nat.le_refl _⟩ ?_
      clear hB3 ownP3 ownN hap
      intro c4' T4' hc2 hT2
      rintro mm f ds W2 ⟨rfl, m, gp, pc, p', hf11, hf8, rfl, hm, HG, hB2, ownP, ownN, hap, hpl'⟩
      replace hc2 := hc2.out
      subst hc2
      replace hT2 := hT2.out
      subst hT2
      generalize hF : mrgF _ 0 _ _ = F
      simp only [mrg_hit, mrg_miss, mrg_end, Nat.reduceBEq, Nat.reduceAdd] at hF
      rw [hf11, hf8] at hF
      subst hF
      clear hf11 hf8
      have hSP := own_sl ownP
      have hSN := own_sl ownN
      by_cases hml : m < nx.length
      · have z0 : (0 : Int) ≤ (m : Int) := by omega
        have z1 : (m : Int) < (nx.length : Int) := by omega
        have q2 : decide ((m : Int) < (nx.length : Int)) = true := decide_eq_true z1
        obtain ⟨ln, hln, -, n0⟩ := hSN.nat_at hml
        have HG2 : Hid (Ge.grow (nx.take (m + 1)) p = if nx[m] ∈ p' then p' else p' ++ [nx[m]]) := Lib.hid (by rw [List.take_succ_eq_append_getElem hml, Ge.grow_snoc, HG.out])
        obtain ⟨x, hx⟩ : ∃ x, nx[m] = x := ⟨_, rfl⟩
        rw [hx] at n0 HG2
        clear hx HG
        have kI := rIn_ok (some ⟨gp, 0, none⟩) pc p' x W2 hSP (by omega)
        obtain rfl : NA = some ln := hln
        by_cases hm2 : x ∈ p'
        · rw [decide_eq_true hm2] at kI
          have HG3 : Hid (Ge.grow (nx.take (m + 1)) p = p') := Lib.hid (by rw [HG2.out, if_pos hm2])
          clear HG2 hm2
          go_wp2_with fail
          refine kI.mono ?_
          rintro e w4 ⟨rfl, rfl⟩
          go_wp2_with fail
          exact ⟨_, rfl, rfl, nx.length - (m + 1), by omega, by trivial, m + 1, gp, pc, p', rfl, rfl, rfl, hml, HG3, hB2, ownP, ownN, hap, by omega⟩
        · rw [decide_eq_false hm2] at kI
          have HG3 : Hid (Ge.grow (nx.take (m + 1)) p = p' ++ [x]) := Lib.hid (by rw [HG2.out, if_neg hm2])
          clear HG2 hm2
          have hbs := hB2.size
          go_wp2_with fail
          refine kI.mono ?_
          rintro e w4 ⟨rfl, rfl⟩
          go_wp2_with (at_builtin; go_loud (
            refine wpList_push_at (cell := icell) (y := ((x : Nat) : Int)) rfl _ _ _ rfl W0.heap.size 3 i0 _ 8 Tryd.underlying31 Hi.out Hz0.out Hz1.out Hz2.out rfl (by decide) _ _ _ rfl ownP _ _ rfl _ rfl (fun _ => rfl) (by unfold maxLen; omega) (by omega) hbs ?_
            intro v8 w8 hown8 hg8 hat8))
          obtain ⟨g8, cap8, rfl⟩ := ownsRow_succ hown8
          have hB8 := hB2.grown hg8 hbs (fun q e => (ownP.lt q e).1)
          have ownN8 := ownN.kept hg8 (by
            cases hq : (Value.slice (some ln) nx.length nc).ownBlock with
            | none => exact .inl rfl
            | some q => exact .inr (fun e => hap q hq (Option.some.inj e)))
          have hap8 : ∀ q, (Value.slice (some ln) nx.length nc).ownBlock = some q → q ≠ g8 := fun q e => by
            rcases hat8 with h | h
            · have h2 : g8 = gp := Option.some.inj h
              rw [h2]
              exact hap q e
            · have := h g8 rfl
              have := (ownN.lt q e).2
              omega
          exact ⟨_, rfl, rfl, nx.length - (m + 1), by omega, by trivial, m + 1, g8, cap8, p' ++ [x], rfl, by rw [List.length_append]; rfl, rfl, hml, HG3, hB8, by rw [List.length_append, bsl_snoc]; exact hown8, ownN8, hap8, by rw [List.length_append]; simp only [List.length_singleton]; omega⟩
      · obtain rfl : m = nx.length := by omega
        have q2 : decide ((nx.length : Int) < (nx.length : Int)) = false := decide_eq_false (by omega)
        rw [List.take_length] at HG
        rw [HG.out] at HB2 HQ2
        have hjg : j + 1 ≤ p'.length := by
          obtain ⟨q, hq⟩ := Ge.grow_pre nx p
          rw [← HG.out, hq, List.length_append]; omega
        go_wp2_with fail
        exact ⟨_, rfl, rfl, vs.length + 1 - (j + 1), by omega, by trivial, j + 1, gp, pc, p', rfl, rfl, rfl, hjg, HB2, HQ2, hB2, ownP⟩
    · obtain rfl : j = p.length := by omega
      have q1 : decide ((p.length : Int) < (p.length : Int)) = false := decide_eq_false (by omega)
      have hpP : p = P := by rw [← HQ.out]; exact (Ge.bfs_end _ (by omega)).symm
      subst hpP
      have st1 := st.next hB1
      have hgp := ownP.lt gp rfl
      have hbw := st1.bel.size
      have hnews : ∀ (q : Nat) (x : Value), (flat 1 icell (bsl p))[q]? = some x → W1.cell? ((⟨gp, 0, none⟩ : Addr).add q) = some x := fun q x hx => by
        exact ownP.cells (g := gp) rfl q x hx
      have HNW := Lib.hid hnews
      have hfl : (flat 1 icell (bsl p)).length = p.length * 1 := by rw [flat_length, bsl_len]
      have HFL := Lib.hid hfl
      clear hnews hfl HB HQ
      have HVS : Hid (∀ q, (Value.slice SA seen.length sc).ownBlock = some q → q < W0.heap.size) := Lib.hid (fun q e => (st.os.lt q e).2)
      obtain ⟨vS, hvS⟩ : ∃ vS, Value.slice SA seen.length sc = vS := ⟨_, rfl⟩
      rw [hvS] at st1 HVS ⊢
      clear hvS
      go_wp2_with (at_builtin; go_loud (
        refine wpList_append_own_at _ rfl _ _ _ rfl w.heap.size 3 i0 _ 1 8 Tryd.underlying31 Hi.out Hz0.out Hz1.out Hz2.out rfl (by decide) _ _ _ rfl st1.os ⟨gp, 0, none⟩ p.length pc (flat 1 icell (bsl p)) rfl HFL.out HNW.out (fun x hx => by
          unfold flat at hx
          obtain ⟨y, _, hy⟩ := List.mem_flatMap.1 hx
          obtain ⟨j, _, rfl⟩ := List.mem_map.1 hy
          rfl) (by unfold maxLen; omega) (by omega) hbw ?_
        intro v7 w7 hown7 hg7 _ hat7))
      have st7 := st1.app hown7 hg7 hat7
      have oP7 := ownP.kept hg7 (own_apart ownP HVS.out)
      have hSP7 := own_sl oP7
      have hV7 := (hV.below st7.bel).more st7.bel.size
      have hbw7 := st7.bel.size
      have hVS7 : ∀ q, v7.ownBlock = some q → q < w7.heap.size := fun q e => (st7.os.lt q e).2
      have HVS7 := Lib.hid hVS7
      clear hown7 hg7 hat7 st1 oP7 ownP HNW HFL hSP hV1 hE1 hB1 hVS7
      refine wp_loop_mrg [12, 13, 67, 68, 69, 70, 71, 72, 73, 74, 75, 76, 77, 78, 79, 80, 81, 82, 83, 84, 85] (fun mm f ds W3 => ds = [] ∧ ∃ (k2 : Nat), f 13 = .int .i64 k2 ∧ vs.length - k2 = mm ∧ k2 ≤ vs.length ∧ Below w7.heap.size w7 W3 ∧ W3.ownsRow w7.heap.size 3 1 (f 12) (Ge.inp (vs.take k2) p).length (flat 1 icell (bsl (Ge.inp (vs.take k2) p)))) vs.length ⟨rfl, 0, rfl, rfl, Nat.zero_le _, Below.refl _ _, own_nil _ _ _ 1 icell⟩ ?_
      intro c6' T6' hc2 hT2
      rintro mm f ds W3 ⟨rfl, k2, hf13, rfl, hk2, hB3, ownT⟩
      replace hc2 := hc2.out
      subst hc2
      replace hT2 := hT2.out
      subst hT2
      generalize hF : mrgF _ 0 _ _ = F
      simp only [mrg_hit, mrg_miss, mrg_end, Nat.reduceBEq, Nat.reduceAdd] at hF
      rw [hf13] at hF
      subst hF
      clear hf13
      generalize f 12 = vT at *
      have hle : (Ge.inp (vs.take k2) p).length ≤ k2 := by refine Nat.le_trans (Ge.inp_len _ _) ?_; rw [List.length_take]; omega
      by_cases hk2l : k2 < vs.length
      · have y0 : (0 : Int) ≤ (k2 : Int) := by omega
        have y1 : (k2 : Int) < (vs.length : Int) := by omega
        have q2 : decide ((k2 : Int) < (vs.length : Int)) = true := decide_eq_true y1
        obtain ⟨lb, hlb2, -, b2⟩ := ((hV7.below hB3).more hB3.size).nat_at hk2l
        obtain rfl := Option.some.inj hlb2
        have HI : Hid (Ge.inp (vs.take (k2 + 1)) p = if vs[k2] ∈ p then Ge.inp (vs.take k2) p ++ [vs[k2]] else Ge.inp (vs.take k2) p) := Lib.hid (by rw [List.take_succ_eq_append_getElem hk2l, Ge.inp_snoc])
        obtain ⟨x, hx⟩ : ∃ x, vs[k2] = x := ⟨_, rfl⟩
        rw [hx] at b2 HI
        clear hx
        generalize Ge.inp (vs.take k2) p = os at *
        have kI := rIn_ok (some ⟨gp, 0, none⟩) pc p x W3 ((hSP7.below hB3).more hB3.size) (by omega)
        by_cases hm : x ∈ p
        · rw [decide_eq_true hm] at kI
          have HI2 : Hid (Ge.inp (vs.take (k2 + 1)) p = os ++ [x]) := Lib.hid (by rw [HI.out, if_pos hm])
          clear HI hm
          go_wp2_with fail
          refine kI.mono ?_
          rintro e w4 ⟨rfl, rfl⟩
          go_wp2_with (at_builtin; go_loud (
            refine wpList_push (w0 := w7) (cell := icell) (y := ((x : Nat) : Int)) rfl _ _ _ rfl w7.heap.size w7.heap.size 3 i0 _ 8 Tryd.underlying31 Hi.out Hz0.out Hz1.out Hz2.out rfl (by decide) _ _ _ rfl ownT _ _ rfl _ rfl (fun _ => rfl) (by unfold maxLen; omega) (by omega) hB3.size (Nat.le_refl _) hB3 ?_
            intro v8 w8 hown8 hb8 hg8))
          exact ⟨_, rfl, rfl, vs.length - (k2 + 1), by omega, by trivial, k2 + 1, rfl, rfl, hk2l, hb8, by rw [HI2.out, List.length_append, bsl_snoc]; exact hown8⟩
        · rw [decide_eq_false hm] at kI
          have HI2 : Hid (Ge.inp (vs.take (k2 + 1)) p = os) := Lib.hid (by rw [HI.out, if_neg hm])
          clear HI hm
          go_wp2_with fail
          refine kI.mono ?_
          rintro e w4 ⟨rfl, rfl⟩
          go_wp2_with fail
          exact ⟨_, rfl, rfl, vs.length - (k2 + 1), by omega, by trivial, k2 + 1, rfl, rfl, hk2l, hB3, by rw [HI2.out]; exact ownT⟩
      · obtain rfl : k2 = vs.length := by omega
        have q2 : decide ((vs.length : Int) < (vs.length : Int)) = false := decide_eq_false (by omega)
        rw [List.take_length] at ownT hle
        generalize Ge.inp vs p = os at *
        have st8 := st7.next hB3
        have hB3s := hB3.size
        have ownT2 := own_base ownT hbw7
        rw [← bsl_len] at ownT ownT2
        obtain ⟨TA, tc, rfl, -⟩ := own_slice (by decide) ownT2
        have HCS : Hid ([Value.slice TA (bsl os).length tc] = (List.range 1).map (slcell (⟨TA, tc, bsl os⟩ : SLc))) := Lib.hid rfl
        have hap9 : ∀ q, (Value.slice TA (bsl os).length tc).ownBlock = some q → v7.ownBlock ≠ some q := fun q e e2 => by
          have := HVS7.out q e2
          have := (ownT.lt q e).1
          omega
        clear st7 hB3
        go_wp2_with (at_builtin; go_loud (
          refine wpList_push (w0 := w) (cell := slcell) (y := (⟨TA, tc, bsl os⟩ : SLc)) rfl _ _ _ rfl w.heap.size w.heap.size 31 il _ 24 Tryd.underlying28 Hil.out Hzl0.out Hzl1.out Hzl2.out rfl (by decide) _ _ _ rfl st8.lo.outer _ _ HCS.out _ rfl (sl_one _) (by unfold maxLen; omega) (by omega) st8.bel.size (Nat.le_refl _) st8.bel ?_
          intro v9 w9 hown9 hb9 hg9))
        have lo9 := st8.lo.push ownT2 hown9 hg9
        have os9 := st8.os.kept hg9 (own_ne st8.os st8.lo.outer (by decide))
        have st9 : CmS w w9 v9 v7 (ls ++ [⟨TA, tc, bsl os⟩]) (seen ++ p) := ⟨hb9, lo9, os9, fun s hs q e => by
          rcases List.mem_append.1 hs with hs | hs
          · exact st8.ap s hs q e
          · rw [List.mem_singleton.1 hs] at e
            exact hap9 q e⟩
        exact ⟨_, rfl, rfl, vs.length - (k + 1), by omega, by trivial, k + 1, _, rfl, rfl, hkl, by rw [HN2.out]; exact st9, by rw [HN2.out, List.map_append, List.map_append, HLS.out]; rfl⟩
  · obtain rfl : k = vs.length := by omega
    have q0 : decide ((vs.length : Int) < (vs.length : Int)) = false := decide_eq_false (by omega)
    rw [List.take_length] at hls st
    go_wp2_with fail
    go_ret
    exact ⟨vO, ls, rfl, st.lo, hls, st.bel⟩
end Go.Proofs.YtjoomgojnpcbeaaDoor
end
