/- A bundle of texts: Lb1, LbCo, LbRe, LbCl. -/
import Derived.Test.YtjoomgojnpcbeaaDoorG27
import Derived.Test.YtjoomgojnpcbeaaDoorG26
import Derived.Test.YtjoomgojnpcbeaaDoorG28
section
namespace Go.Proofs.YtjoomgojnpcbeaaDoor
open Go Go.RowKit Gh
set_option maxRecDepth 100000
structure LG (w W : World) (g bg n : Nat) (R : List Nat) (E : List Ge.Ed) (EA : Option Addr) (ec : Nat) : Prop where
  bel : Below w.heap.size w W
  ge : GE W w.heap.size g bg n R E EA ec
  tab0 : Tab64 w
  el : E.length ≤ 1000
section
variable {w W W' : World} {g bg n : Nat} {R : List Nat} {E : List Ge.Ed} {EA : Option Addr} {ec : Nat}
theorem LG.tab (h : LG w W g bg n R E EA ec) : Tab64 W := h.tab0.kept h.bel
theorem LG.next (h : LG w W g bg n R E EA ec) (hb : Below W.heap.size W W') : LG w W' g bg n R E EA ec := ⟨after_ h.bel hb, h.ge.next hb, h.tab0, h.el⟩
theorem LG.er (h : LG w W g bg n R E EA ec) : Ge.ER n E R := h.ge.er
theorem LG.len (h : LG w W g bg n R E EA ec) : R.length = n := h.ge.er.len
theorem LG.known (h : LG w W g bg n R E EA ec) : Calls Tryd.prog 11 #[] W fun e w' => e = .returned (.bool true) ∧ Below W.heap.size W w' := known08_any W h.tab
theorem LG.of {m : Nat} {l : List (Int × Int)} (ht : Tab64 w) (hl : l.length ≤ 1000) (hb : Below w.heap.size w W) (ge : GE W w.heap.size g bg m R (Ge.bld m l) EA ec) : LG w W g bg m R (Ge.bld m l) EA ec :=
  ⟨hb, ge, ht, by have := Ge.bld_len m l l.length (Nat.le_refl _); rw [List.take_length] at this; omega⟩
theorem cmps_le (R : List Nat) : (Dg.cmps R).length ≤ R.length ∧ ∀ s ∈ Dg.cmps R, s.length ≤ 512 := by
  unfold Dg.cmps Dg.cmpsTo
  refine ⟨by rw [List.length_map]; exact Dg.lds_len R _, fun s hs => ?_⟩
  obtain ⟨u, -, rfl⟩ := List.mem_map.1 hs
  exact Bs.els_len _ _
theorem comps_le (er : Ge.ER n E R) : (Ge.comps E (List.range n)).length ≤ 512 ∧ ∀ s ∈ Ge.comps E (List.range n), s.length ≤ 512 := by
  rw [er.comps]
  have := cmps_le R
  have := er.le
  have := er.len
  exact ⟨by omega, (cmps_le R).2⟩
theorem LG.comps (h : LG w W g bg n R E EA ec) : Calls Tryd.prog 14 #[gp bg] W fun e w' => (∃ A c ls, e = .returned (.slice A ls.length c) ∧ LL w' A ls ∧ ls.map (·.xs) = (Ge.comps E (List.range n)).map bsl) ∧ Below W.heap.size W w' := by
  refine (ghComponents_ok _ R W h.ge.go.gg.v h.er.ok h.er.sy h.tab).mono ?_
  rintro e w' ⟨v, ls, rfl, hlo, hls, hb⟩
  obtain ⟨A, c, rfl, hll⟩ := hlo.sl_
  exact ⟨⟨A, c, ls, rfl, hll, by rw [hls, h.er.comps]⟩, hb⟩
theorem LG.rcomps (h : LG w W g bg n R E EA ec) (VA : Option Addr) (vc : Nat) (hV : Sl 1 icell W W.heap.size VA (bsl (List.range n))) (hn : n ≤ 1000) : Calls Tryd.prog 15 #[.slice EA E.length ec, .slice VA n vc] W fun e w' => (∃ A c ls, e = .returned (.slice A ls.length c) ∧ LL w' A ls ∧ ls.map (·.xs) = (Ge.comps E (List.range n)).map bsl) ∧ Below W.heap.size W w' := by
  have k := rComps_ok EA ec E VA vc (List.range n) W h.ge.sl (by have := h.el; omega) hV (by rw [List.length_range]; exact hn)
  rw [List.length_range] at k
  refine k.mono ?_
  rintro e w' ⟨v, ls, rfl, hlo, hls, hb⟩
  obtain ⟨A, c, rfl, hll⟩ := hlo.sl_
  exact ⟨⟨A, c, ls, rfl, hll, hls⟩, hb⟩
theorem lAl {A B : Option Addr} {ac bc : Nat} {us vs : List SLc} {cs : List (List Nat)} (W : World) (hA : LL W A us) (hB : LL W B vs) (h1 : us.map (·.xs) = cs.map bsl) (h2 : vs.map (·.xs) = cs.map bsl) (hl : cs.length ≤ 512 ∧ ∀ s ∈ cs, s.length ≤ 512) : Calls Tryd.prog 13 #[.slice A us.length ac, .slice B vs.length bc] W fun e w' => e = .returned (.bool true) ∧ Below W.heap.size W w' := by
  have hlu : us.length = cs.length := by have := congrArg List.length h1; simpa using this
  have h := lAlike_any A B ac bc us vs W hA hB (by omega) (fun s hs => by
    have h3 : s.xs ∈ us.map (·.xs) := List.mem_map.2 ⟨s, hs, rfl⟩
    rw [h1] at h3
    obtain ⟨t, ht, e⟩ := List.mem_map.1 h3
    rw [← e, bsl_len]
    have := hl.2 t ht
    omega)
  rw [decide_eq_true (h1.trans h2.symm)] at h
  exact h
theorem lEq {A B : Option Addr} {ac bc n m : Nat} {L : List Nat} (W : World) (hn : n = L.length) (hm : m = L.length) (hA : Sl 1 icell W W.heap.size A (bsl L)) (hB : Sl 1 icell W W.heap.size B (bsl L)) (hl : L.length ≤ 1000000) : Calls Tryd.prog 19 #[.slice A n ac, .slice B m bc] W fun e w' => e = .returned (.bool true) ∧ Below W.heap.size W w' := by
  subst hn hm
  have h := lEqual_any A B ac bc (bsl L) (bsl L) W hA hB (by rw [bsl_len]; exact hl)
  rw [decide_eq_true rfl, bsl_len] at h
  exact h
theorem LG.degen (h : LG w W g bg n R E EA ec) : Calls Tryd.prog 20 #[gp bg] W fun e w' => (∃ A c, e = .returned (.tuple #[.slice A n c, .int .i64 ((Ge.rem E n n).2.2 : Nat)]) ∧ Sl 1 icell w' w'.heap.size A (bsl (Ge.rem E n n).1)) ∧ Below W.heap.size W w' := by
  refine (ghDegeneracy_ok _ R W h.ge.go.gg.v h.er.ok.len h.er.fit h.er.sy h.tab).mono ?_
  rintro e w' ⟨A, c, rfl, hS, hb⟩
  rw [h.er.rem n (Nat.le_refl _)]
  rw [h.len] at hS ⊢
  exact ⟨⟨A, c, rfl, hS⟩, hb⟩
theorem LG.rdegen (h : LG w W g bg n R E EA ec) : Calls Tryd.prog 21 #[.int .i64 n, .slice EA E.length ec] W fun e w' => (∃ A c, e = .returned (.tuple #[.slice A n c, .int .i64 ((Ge.rem E n n).2.2 : Nat)]) ∧ Sl 1 icell w' w'.heap.size A (bsl (Ge.rem E n n).1)) ∧ Below W.heap.size W w' := by
  refine (rRemoval_ok n EA ec E W h.ge.sl (by have := h.el; omega) (by have := h.er.le; omega)).mono ?_
  rintro e w' ⟨A, c, rfl, hS, hb⟩
  exact ⟨⟨A, c, rfl, hS⟩, hb⟩
theorem rem_len (er : Ge.ER n E R) : (Ge.rem E n n).1.length = n ∧ n ≤ 512 := ⟨(Ge.rem_left (E := E) (n := n) n (Nat.le_refl _)).2.2.1, er.le⟩
theorem cliq_len (er : Ge.ER n E R) : (Ge.cliq E n).length ≤ 512 := by rw [er.cliq]; exact Bs.els_len _ _
theorem LG.clique (h : LG w W g bg n R E EA ec) : Calls Tryd.prog 22 #[gp bg] W fun e w' => (∃ A c, e = .returned (.slice A (Ge.cliq E n).length c) ∧ Sl 1 icell w' w'.heap.size A (bsl (Ge.cliq E n))) ∧ Below W.heap.size W w' := by
  refine (ghClique_ok _ R W h.ge.go.gg.v h.er.ok.len h.er.fit h.er.sy h.tab).mono ?_
  rintro e w' ⟨A, c, rfl, hS, hb⟩
  rw [bsl_len, h.er.cliq]
  exact ⟨⟨A, c, rfl, hS⟩, hb⟩
theorem LG.rclique (h : LG w W g bg n R E EA ec) : Calls Tryd.prog 23 #[.int .i64 n, .slice EA E.length ec] W fun e w' => (∃ A c, e = .returned (.slice A (Ge.cliq E n).length c) ∧ Sl 1 icell w' w'.heap.size A (bsl (Ge.cliq E n))) ∧ Below W.heap.size W w' := by
  refine (rClique_ok n EA ec E W h.ge.sl (by have := h.el; omega) (by have := h.er.le; omega)).mono ?_
  rintro e w' ⟨A, c, rfl, hS, hb⟩
  exact ⟨⟨A, c, rfl, own_sl hS⟩, hb⟩
theorem LG.colour (h : LG w W g bg n R E EA ec) (OA : Option Addr) (oc : Nat) (o : List Int) (hO : Sl 1 icell W W.heap.size OA o) (hf : Ge.full n o = true) : Calls Tryd.prog 24 #[gp bg, .slice OA o.length oc] W fun e w' => (∃ A c O, o = bsl O ∧ e = .returned (.tuple #[.slice A n c, .int .i64 0]) ∧ Sl 1 icell w' w'.heap.size A (nfl n (Ge.colE E O O.length).2)) ∧ Below W.heap.size W w' := by
  rw [Ge.full_iff, Bool.and_eq_true, decide_eq_true_eq] at hf
  have h512 := h.er.le
  refine (ghColour_ok bg _ n R E.length OA oc o W h.tab h.ge.go.gg h.er.ok.len h.er.fit hO (by omega)).mono ?_
  rintro e w' ⟨⟨-, A, c, O, rfl, rfl, hS⟩ | ⟨hn, -⟩, hb⟩
  · rw [h.len] at hS ⊢
    have hnd : O.Nodup := by
      have h1 := (okO_nodup n _ _ hf.2).1
      unfold bsl at h1
      exact (List.pairwise_map.1 h1).imp (fun h2 e => h2 (by rw [e]))
    have hc := h.er.col hnd O.length (Nat.le_refl _)
    rw [List.take_length] at hc
    rw [← hc] at hS
    exact ⟨⟨A, c, O, rfl, rfl, hS⟩, hb⟩
  · rw [h.len] at hn
    exact absurd hf hn
theorem LG.colour_no (h : LG w W g bg n R E EA ec) (OA : Option Addr) (oc : Nat) (o : List Int) (hO : Sl 1 icell W W.heap.size OA o) (hf : Ge.full n o = false) (hol : o.length ≤ 1000000) : Calls Tryd.prog 24 #[gp bg, .slice OA o.length oc] W fun e w' => e = .returned (.tuple #[.slice none 0 0, .int .i64 2]) ∧ Below W.heap.size W w' := by
  rw [Ge.full_iff] at hf
  refine (ghColour_ok bg _ n R E.length OA oc o W h.tab h.ge.go.gg h.er.ok.len h.er.fit hO (by omega)).mono ?_
  rintro e w' ⟨⟨hy, -⟩ | ⟨-, rfl⟩, hb⟩
  · rw [h.len] at hy
    rw [decide_eq_true hy.1, hy.2] at hf
    cases hf
  · exact ⟨rfl, hb⟩
end
end Go.Proofs.YtjoomgojnpcbeaaDoor
end

section
namespace Go.Proofs.YtjoomgojnpcbeaaDoor
open Go Go.RowKit Gh
set_option maxRecDepth 100000
theorem rAll_sl (m : Nat) (w : World) (hm : m ≤ 1000000) : Calls Tryd.prog 16 #[.int .i64 m] w fun e w' => (∃ A c, e = .returned (.slice A m c) ∧ Sl 1 icell w' w'.heap.size A (bsl (List.range m))) ∧ Below w.heap.size w w' := by
 refine (rAll_ok m w hm).mono ?_
 rintro e w' ⟨A, c, rfl, h, hb⟩
 have h2 := own_sl h
 rw [List.length_range]
 exact ⟨⟨A, c, rfl, h2⟩, hb⟩
set_option maxHeartbeats 64000000 in
theorem graphComponents_walk (n : Int) (LA : Option Addr) (lc : Nat) (l : List (Int × Int)) (w : World) (ht : Tab64 w) (hL : Sl 2 dcell w w.heap.size LA l) :
  Calls Tryd.prog 3 #[.int .i64 n, .slice LA l.length lc] w fun e w' => e = .returned (.bool true) ∧ Below w.heap.size w w' := by
 have hund : undef = Value.tuple #[] := rfl
 obtain ⟨r, g0⟩ : ∃ r, decide (n < 0) = r := ⟨_, rfl⟩
 cases r with
 | true =>
  go_enter Tryd.func3, Tryd.ntmps3
  go_wp2_with fail
  refine (known08_any w ht).mono ?_
  rintro e x9 ⟨rfl, hb9⟩
  go_wp2_with fail
  go_ret
  exact ⟨rfl, hb9⟩
 | false =>
 obtain ⟨r, g1⟩ : ∃ r, decide ((30 : Int) < n) = r := ⟨_, rfl⟩
 cases r with
 | true =>
  go_enter Tryd.func3, Tryd.ntmps3
  go_wp2_with fail
  refine (known08_any w ht).mono ?_
  rintro e x9 ⟨rfl, hb9⟩
  go_wp2_with fail
  go_ret
  exact ⟨rfl, hb9⟩
 | false =>
 obtain ⟨r, g2⟩ : ∃ r, decide ((40 : Int) < (l.length : Int)) = r := ⟨_, rfl⟩
 cases r with
 | true =>
  go_enter Tryd.func3, Tryd.ntmps3
  go_wp2_with fail
  refine (known08_any w ht).mono ?_
  rintro e x9 ⟨rfl, hb9⟩
  go_wp2_with fail
  go_ret
  exact ⟨rfl, hb9⟩
 | false =>
 obtain ⟨m, rfl⟩ : ∃ m : Nat, n = m := ⟨n.toNat, by have := of_decide_eq_false g0; omega⟩
 have hm : m ≤ 30 := by have := of_decide_eq_false g1; omega
 have hl : l.length ≤ 40 := by have := of_decide_eq_false g2; omega
 have kB := lBuild_ok m LA lc l w hL (by omega) (by omega)
 go_enter Tryd.func3, Tryd.ntmps3
 go_wp2_with fail
 refine kB.mono ?_
 rintro e w1 ⟨g, bg, R, EA, ec, rfl, ge, hb1⟩
 have lg := LG.of ht (by omega) hb1 ge
 clear kB ge hb1 g0 g1
 generalize Ge.bld m l = E at *
 go_wp2_with fail
 refine (lg.comps).mono ?_
 rintro e w2a ⟨⟨PA, pc, pls, rfl, hpl, hpe⟩, hbx⟩
 replace lg := lg.next hbx
 clear hbx
 have her := lg.er
 go_wp2_with fail
 refine (rAll_sl m w2a (by omega)).mono ?_
 rintro e w2b ⟨⟨VA, vc, rfl, hV⟩, hbx⟩
 replace lg := lg.next hbx
 replace hpl := hpl.next hbx
 clear hbx
 go_wp2_with fail
 refine (lg.rcomps VA vc hV (by omega)).mono ?_
 rintro e w2c ⟨⟨QA, qc, qls, rfl, hql, hqe⟩, hbx⟩
 replace lg := lg.next hbx
 replace hpl := hpl.next hbx
 replace hV := (hV.below hbx).more hbx.size
 clear hbx
 clear hV
 go_wp2_with fail
 refine (lAl w2c hpl hql hpe hqe (comps_le her)).mono ?_
 rintro e w2d ⟨rfl, hbx⟩
 replace lg := lg.next hbx
 replace hpl := hpl.next hbx
 replace hql := hql.next hbx
 clear hbx
 clear hpl hql
 clear hpe hqe her
 go_wp2_with fail
 refine (lg.known).mono ?_
 rintro e x9 ⟨rfl, hbx⟩
 have hbz := after_ lg.bel hbx
 go_wp2_with fail
 go_ret
 exact ⟨rfl, hbz⟩
end Go.Proofs.YtjoomgojnpcbeaaDoor
end

section
namespace Go.Proofs.YtjoomgojnpcbeaaDoor
open Go Go.RowKit Gh
set_option maxRecDepth 100000
set_option maxHeartbeats 64000000 in
theorem graphRemoves_walk (n : Int) (LA : Option Addr) (lc : Nat) (l : List (Int × Int)) (w : World) (ht : Tab64 w) (hL : Sl 2 dcell w w.heap.size LA l) :
  Calls Tryd.prog 5 #[.int .i64 n, .slice LA l.length lc] w fun e w' => e = .returned (.bool true) ∧ Below w.heap.size w w' := by
 have hund : undef = Value.tuple #[] := rfl
 obtain ⟨r, g0⟩ : ∃ r, decide (n < 0) = r := ⟨_, rfl⟩
 cases r with
 | true =>
  go_enter Tryd.func5, Tryd.ntmps5
  go_wp2_with fail
  refine (known08_any w ht).mono ?_
  rintro e x9 ⟨rfl, hb9⟩
  go_wp2_with fail
  go_ret
  exact ⟨rfl, hb9⟩
 | false =>
 obtain ⟨r, g1⟩ : ∃ r, decide ((16 : Int) < n) = r := ⟨_, rfl⟩
 cases r with
 | true =>
  go_enter Tryd.func5, Tryd.ntmps5
  go_wp2_with fail
  refine (known08_any w ht).mono ?_
  rintro e x9 ⟨rfl, hb9⟩
  go_wp2_with fail
  go_ret
  exact ⟨rfl, hb9⟩
 | false =>
 obtain ⟨r, g2⟩ : ∃ r, decide ((40 : Int) < (l.length : Int)) = r := ⟨_, rfl⟩
 cases r with
 | true =>
  go_enter Tryd.func5, Tryd.ntmps5
  go_wp2_with fail
  refine (known08_any w ht).mono ?_
  rintro e x9 ⟨rfl, hb9⟩
  go_wp2_with fail
  go_ret
  exact ⟨rfl, hb9⟩
 | false =>
 obtain ⟨m, rfl⟩ : ∃ m : Nat, n = m := ⟨n.toNat, by have := of_decide_eq_false g0; omega⟩
 have hm : m ≤ 16 := by have := of_decide_eq_false g1; omega
 have hl : l.length ≤ 40 := by have := of_decide_eq_false g2; omega
 have kB := lBuild_ok m LA lc l w hL (by omega) (by omega)
 go_enter Tryd.func5, Tryd.ntmps5
 go_wp2_with fail
 refine kB.mono ?_
 rintro e w1 ⟨g, bg, R, EA, ec, rfl, ge, hb1⟩
 have lg := LG.of ht (by omega) hb1 ge
 clear kB ge hb1 g0 g1
 generalize Ge.bld m l = E at *
 go_wp2_with fail
 refine (lg.degen).mono ?_
 rintro e w2 ⟨⟨OA, oc, rfl, hO⟩, hbx⟩
 replace lg := lg.next hbx
 clear hbx
 go_wp2_with fail
 refine (lg.rdegen).mono ?_
 rintro e w3 ⟨⟨UA, uc, rfl, hU⟩, hbx⟩
 replace lg := lg.next hbx
 replace hO := (hO.below hbx).more hbx.size
 clear hbx
 have hrl := rem_len lg.er
 have qd : ((((Ge.rem E m m).2.2 : Nat) : Int) == (((Ge.rem E m m).2.2 : Nat) : Int)) = true := by simp
 have hcl := cliq_len lg.er
 have kE := lEq (ac := oc) (bc := uc) w3 hrl.1.symm hrl.1.symm hO hU (by omega)
 go_wp2_with fail
 refine kE.mono ?_
 rintro e w4 ⟨rfl, hbx⟩
 clear kE
 replace lg := lg.next hbx
 replace hO := (hO.below hbx).more hbx.size
 replace hU := (hU.below hbx).more hbx.size
 clear hbx
 clear hO hU
 clear hrl
 go_wp2_with fail
 refine (lg.clique).mono ?_
 rintro e w5 ⟨⟨OA, oc, rfl, hO⟩, hbx⟩
 replace lg := lg.next hbx
 clear hbx
 go_wp2_with fail
 refine (lg.rclique).mono ?_
 rintro e w6 ⟨⟨UA, uc, rfl, hU⟩, hbx⟩
 replace lg := lg.next hbx
 replace hO := (hO.below hbx).more hbx.size
 clear hbx
 go_wp2_with fail
 refine (lEq (ac := oc) (bc := uc) w6 rfl rfl hO hU (by omega)).mono ?_
 rintro e w7 ⟨rfl, hbx⟩
 replace lg := lg.next hbx
 replace hO := (hO.below hbx).more hbx.size
 replace hU := (hU.below hbx).more hbx.size
 clear hbx
 clear hO hU
 go_wp2_with fail
 refine (lg.known).mono ?_
 rintro e x9 ⟨rfl, hbx⟩
 have hbz := after_ lg.bel hbx
 go_wp2_with fail
 go_ret
 exact ⟨rfl, hbz⟩
end Go.Proofs.YtjoomgojnpcbeaaDoor
end

section
namespace Go.Proofs.YtjoomgojnpcbeaaDoor
open Go Go.RowKit Gh
set_option maxRecDepth 100000
theorem lEqI {A B : Option Addr} {ac bc n m : Nat} {L : List Int} (W : World) (hn : n = L.length) (hm : m = L.length) (hA : Sl 1 icell W W.heap.size A L) (hB : Sl 1 icell W W.heap.size B L) (hl : L.length ≤ 1000000) : Calls Tryd.prog 19 #[.slice A n ac, .slice B m bc] W fun e w' => e = .returned (.bool true) ∧ Below W.heap.size W w' := by
 subst hn hm
 have h := lEqual_any A B ac bc L L W hA hB hl
 rw [decide_eq_true rfl] at h
 exact h
set_option maxHeartbeats 64000000 in
theorem graphColours_walk (n : Int) (LA : Option Addr) (lc : Nat) (l : List (Int × Int)) (OA : Option Addr) (oc : Nat) (o : List Int) (w : World) (ht : Tab64 w) (hL : Sl 2 dcell w w.heap.size LA l) (hO : Sl 1 icell w w.heap.size OA o) (hoc : o.length ≤ oc) :
  Calls Tryd.prog 6 #[.int .i64 n, .slice LA l.length lc, .slice OA o.length oc] w fun e w' => e = .returned (.bool true) ∧ Below w.heap.size w w' := by
 have hund : undef = Value.tuple #[] := rfl
 obtain ⟨r, g0⟩ : ∃ r, decide (n < 0) = r := ⟨_, rfl⟩
 cases r with
 | true =>
  go_enter Tryd.func6, Tryd.ntmps6
  go_wp2_with fail
  refine (known08_any w ht).mono ?_
  rintro e x9 ⟨rfl, hb9⟩
  go_wp2_with fail
  go_ret
  exact ⟨rfl, hb9⟩
 | false =>
 obtain ⟨r, g1⟩ : ∃ r, decide ((16 : Int) < n) = r := ⟨_, rfl⟩
 cases r with
 | true =>
  go_enter Tryd.func6, Tryd.ntmps6
  go_wp2_with fail
  refine (known08_any w ht).mono ?_
  rintro e x9 ⟨rfl, hb9⟩
  go_wp2_with fail
  go_ret
  exact ⟨rfl, hb9⟩
 | false =>
 obtain ⟨r, g2⟩ : ∃ r, decide ((40 : Int) < (l.length : Int)) = r := ⟨_, rfl⟩
 cases r with
 | true =>
  go_enter Tryd.func6, Tryd.ntmps6
  go_wp2_with fail
  refine (known08_any w ht).mono ?_
  rintro e x9 ⟨rfl, hb9⟩
  go_wp2_with fail
  go_ret
  exact ⟨rfl, hb9⟩
 | false =>
 obtain ⟨r, g3⟩ : ∃ r, decide ((20 : Int) < (o.length : Int)) = r := ⟨_, rfl⟩
 cases r with
 | true =>
  go_enter Tryd.func6, Tryd.ntmps6
  go_wp2_with fail
  refine (known08_any w ht).mono ?_
  rintro e x9 ⟨rfl, hb9⟩
  go_wp2_with fail
  go_ret
  exact ⟨rfl, hb9⟩
 | false =>
 obtain ⟨m, rfl⟩ : ∃ m : Nat, n = m := ⟨n.toNat, by have := of_decide_eq_false g0; omega⟩
 have hm : m ≤ 16 := by have := of_decide_eq_false g1; omega
 have hl : l.length ≤ 40 := by have := of_decide_eq_false g2; omega
 have kB := lBuild_ok m LA lc l w hL (by omega) (by omega)
 go_enter Tryd.func6, Tryd.ntmps6
 go_wp2_with fail
 refine kB.mono ?_
 rintro e w1 ⟨g, bg, R, EA, ec, rfl, ge, hb1⟩
 have lg := LG.of ht (by omega) hb1 ge
 clear kB ge  g0 g1
 generalize Ge.bld m l = E at *
 have hol : o.length ≤ 20 := by have := of_decide_eq_false g3; omega
 have hB0 := hb1.size
 have hQ := (hO.below hb1).more hb1.size
 clear hb1
 obtain ⟨i0, hi, hz0, hz1, hz2⟩ := info_parts intInfoD
 have Hi := Lib.hid hi; have Hz0 := Lib.hid hz0; have Hz1 := Lib.hid hz1; have Hz2 := Lib.hid hz2
 clear hi hz0 hz1 hz2
 have HO1 := Lib.hid (own_empty w1 w1.heap.size 3 1 icell (Nat.le_refl _))
 have HB1 : Hid (Below w1.heap.size w1 (w1.alloc (.cells #[] 3))) := Lib.hid ((Below.refl _ _).alloc (Nat.le_refl _) _)
 have kC := rComplete_ok m OA oc o
 go_wp2_with (at_builtin; go_loud (
  refine wpList_append_sl _ (w0 := w1) (cell := icell) rfl _ _ _ rfl w1.heap.size w1.heap.size 3 i0 _ 8 Tryd.underlying31 Hi.out Hz0.out Hz1.out Hz2.out rfl (by decide) _ 0 [] rfl HO1.out w1.heap.size OA oc o rfl (hQ.below HB1.out) (fun y j => rfl) (by unfold maxLen; omega) (by omega) (by simp) (Nat.le_refl _) HB1.out ?_
  intro v1 w2 own1 hbx _))
 obtain ⟨NA, nc, rfl, hN⟩ : ∃ A c, v1 = .slice A o.length c ∧ Sl 1 icell w2 w2.heap.size A o := by
  rw [Nat.zero_add, List.nil_append] at own1
  exact own_slice (by decide) own1
 clear own1 HO1 HB1
 replace lg := lg.next hbx
 replace hQ := (hQ.below hbx).more hbx.size
 clear hbx
 cases hf : Ge.full m o with
 | false =>
  go_wp2_with fail
  refine (lg.colour_no NA nc o hN hf (by omega)).mono ?_
  rintro e w3 ⟨rfl, hbx⟩
  replace lg := lg.next hbx
  replace hQ := (hQ.below hbx).more hbx.size
  replace hN := (hN.below hbx).more hbx.size
  clear hbx
  have kC2 := kC w3 hQ (by omega) (by omega)
  rw [hf] at kC2
  clear kC
  go_wp2_with fail
  refine kC2.mono ?_
  rintro e w4 ⟨rfl, rfl⟩
  clear kC2
  clear hQ hN hO hL
  go_wp2_with fail
  refine (lg.known).mono ?_
  rintro e x9 ⟨rfl, hbx⟩
  have hbz := after_ lg.bel hbx
  go_wp2_with fail
  go_ret
  exact ⟨rfl, hbz⟩
 | true =>
  go_wp2_with fail
  refine (lg.colour NA nc o hN hf).mono ?_
  rintro e w3 ⟨⟨CA, cc, O, hoO, rfl, hC⟩, hbx⟩
  replace lg := lg.next hbx
  replace hQ := (hQ.below hbx).more hbx.size
  replace hN := (hN.below hbx).more hbx.size
  clear hbx
  have kC2 := kC w3 hQ (by omega) (by omega)
  rw [hf] at kC2
  clear kC
  have hlen : o.length = O.length := by rw [hoO, bsl_len]
  have hOm : O.length = m := by
   have h1 := hf
   unfold Ge.full at h1
   rw [Bool.and_eq_true, decide_eq_true_eq] at h1
   omega
  have hOlt : ∀ x ∈ O, x < m := fun x hx => by
   have h1 := hf
   rw [Ge.full_iff, Bool.and_eq_true] at h1
   have h2 := (okO_nodup m _ _ h1.2).2 (x : Int) (by rw [hoO]; exact mem_bsl.2 hx)
   omega
  have HLT := Lib.hid hOlt
  have HOO := Lib.hid hoO
  have HLEN := Lib.hid hlen
  have HOM := Lib.hid hOm
  clear hOlt hoO hf hlen hOm
  go_wp2_with fail
  refine kC2.mono ?_
  rintro e w4 ⟨rfl, rfl⟩
  clear kC2
  have kR := rColours_ok m EA ec E OA oc O w3 lg.ge.sl (by have := lg.el; omega) (by rw [← HOO.out]; exact hQ) (by omega) (by have := HLEN.out; omega) (by have := hoc; have := HLEN.out; omega) HLT.out
  rw [← HLEN.out] at kR
  go_wp2_with fail
  refine kR.mono ?_
  rintro e w5 ⟨DA, dc, rfl, hD, hbx⟩
  clear kR
  replace lg := lg.next hbx
  replace hQ := (hQ.below hbx).more hbx.size
  replace hN := (hN.below hbx).more hbx.size
  replace hC := (hC.below hbx).more hbx.size
  clear hbx
  rw [HLEN.out] at hD
  have kE := lEqI (ac := cc) (bc := dc) w5 (nfl_len m _).symm (nfl_len m _).symm hC hD (by rw [nfl_len]; omega)
  go_wp2_with fail
  refine kE.mono ?_
  rintro e w6 ⟨rfl, hbx⟩
  clear kE
  replace lg := lg.next hbx
  replace hQ := (hQ.below hbx).more hbx.size
  replace hN := (hN.below hbx).more hbx.size
  replace hC := (hC.below hbx).more hbx.size
  replace hD := (hD.below hbx).more hbx.size
  clear hbx
  clear hC hD
  have kE := lEqI (ac := nc) (bc := oc) w6 rfl rfl hN hQ (by omega)
  go_wp2_with fail
  refine kE.mono ?_
  rintro e w7 ⟨rfl, hbx⟩
  clear kE
  replace lg := lg.next hbx
  replace hQ := (hQ.below hbx).more hbx.size
  replace hN := (hN.below hbx).more hbx.size
  clear hbx
  clear hN hQ
  go_wp2_with fail
  refine (lg.known).mono ?_
  rintro e x9 ⟨rfl, hbx⟩
  have hbz := after_ lg.bel hbx
  go_wp2_with fail
  go_ret
  exact ⟨rfl, hbz⟩
end Go.Proofs.YtjoomgojnpcbeaaDoor
end
