/- A bundle of texts: LbBl. -/
import Derived.Test.YtjoomgojnpcbeaaDoorK29
import Derived.Test.YtjoomgojnpcbeaaDoorK30
section
namespace Go.Proofs.YtjoomgojnpcbeaaDoor
open Go Go.RowKit Gh
set_option maxRecDepth 100000
theorem blks_lenB {R : List Nat} (hR : Dg.Ok R) : (blks R).length ≤ 512 ∧ ∀ b ∈ blks R, b.length ≤ 512 := by
  obtain ⟨b1, b2, -⟩ := upto_ok (R := R) (fun v x h => hR.fit v x h) hR.len R.length (Nat.le_refl _)
  have hp := isort_perm (found R).blocks
  have hl := hR.len
  refine ⟨?_, fun b hb => b2.len b (hp.mem_iff.1 hb)⟩
  have h1 := hp.length_eq
  have h2 := b1.cb
  have h3 := b1.ct
  show (isort (found R).blocks).length ≤ 512
  rw [h1]
  show (upto R R.length).blocks.length ≤ 512
  omega
section
variable {w W : World} {g bg n : Nat} {R : List Nat} {E : List Ge.Ed} {EA : Option Addr} {ec : Nat}
theorem LG.blocksB (h : LG w W g bg n R E EA ec) : Calls Tryd.prog 17 #[gp bg] W fun e w' => (∃ A c ls CA cc, e = .returned (.tuple #[.slice A ls.length c, .slice CA (cuts R).length cc]) ∧ LL w' A ls ∧ ls.map (·.xs) = (blks R).map bsl ∧ Sl 1 icell w' w'.heap.size CA (bsl (cuts R))) ∧ Below W.heap.size W w' := by
  refine (ghBlocks_ok _ R W h.ge.go.gg.v h.er.ok.len h.er.fit h.tab).mono ?_
  rintro e w' ⟨v, ls, CA, cc, rfl, hlo, hls, hS, hb⟩
  obtain ⟨A, c, rfl, hll⟩ := hlo.sl_
  exact ⟨⟨A, c, ls, CA, cc, rfl, hll, hls, hS⟩, hb⟩
theorem LG.rblocks (h : LG w W g bg n R E EA ec) : Calls Tryd.prog 18 #[.int .i64 n, .slice EA E.length ec] W fun e w' => (∃ A c ls CA cc, e = .returned (.tuple #[.slice A ls.length c, .slice CA (cuts R).length cc]) ∧ LL w' A ls ∧ ls.map (·.xs) = (blks R).map bsl ∧ Sl 1 icell w' w'.heap.size CA (bsl (cuts R))) ∧ Below W.heap.size W w' := by
  obtain ⟨a1, a2⟩ := Ge.allB_perm h.er
  obtain ⟨b1, b2⟩ := Ge.allB_isB h.er
  have hle := h.er.le
  have k := rBlocks_ok n EA ec E W h.ge.sl (by have := h.el; omega) hle (by rw [a2]; exact Ge.isB_nodup (blks_isB h.er.fit h.er.ok.len h.er.adj)) (fun b hb => by
    obtain ⟨-, x, -, hx, -⟩ := b1.ns b hb
    have h1 := (b2 b hb).length_le
    rw [List.length_range] at h1
    exact ⟨fun e => (by rw [e] at hx; cases hx), by omega⟩)
  rw [a2, Ge.cuts_eq h.er] at k
  refine k.mono ?_
  rintro e w' ⟨A, c, ls, CA, cc, rfl, h1, h2, h3, h4⟩
  exact ⟨⟨A, c, ls, CA, cc, rfl, h1, h2, h3⟩, h4⟩
end
set_option maxHeartbeats 64000000 in
theorem graphBlocks_walk (n : Int) (LA : Option Addr) (lc : Nat) (l : List (Int × Int)) (w : World) (ht : Tab64 w) (hL : Sl 2 dcell w w.heap.size LA l) :
    Calls Tryd.prog 4 #[.int .i64 n, .slice LA l.length lc] w fun e w' => e = .returned (.bool true) ∧ Below w.heap.size w w' := by
  have hund : undef = Value.tuple #[] := rfl
  obtain ⟨r, g0⟩ : ∃ r, decide (n < 0) = r := ⟨_, rfl⟩
  cases r with
  | true =>
    go_enter Tryd.func4, Tryd.ntmps4
    go_wp2_with fail
    refine (known08_any w ht).mono ?_
    rintro e x9 ⟨rfl, hb9⟩
    go_wp2_with fail
    go_ret
    exact ⟨rfl, hb9⟩
  | false =>
  obtain ⟨r, g1⟩ : ∃ r, decide ((16 : Int) < n) = r := ⟨_, rfl⟩
  cases r with
  | true =>
    go_enter Tryd.func4, Tryd.ntmps4
    go_wp2_with fail
    refine (known08_any w ht).mono ?_
    rintro e x9 ⟨rfl, hb9⟩
    go_wp2_with fail
    go_ret
    exact ⟨rfl, hb9⟩
  | false =>
  obtain ⟨r, g2⟩ : ∃ r, decide ((30 : Int) < (l.length : Int)) = r := ⟨_, rfl⟩
  cases r with
  | true =>
    go_enter Tryd.func4, Tryd.ntmps4
    go_wp2_with fail
    refine (known08_any w ht).mono ?_
    rintro e x9 ⟨rfl, hb9⟩
    go_wp2_with fail
    go_ret
    exact ⟨rfl, hb9⟩
  | false =>
  obtain ⟨m, rfl⟩ : ∃ m : Nat, n = m := ⟨n.toNat, by have := of_decide_eq_false g0; omega⟩
  have hm : m ≤ 16 := by have := of_decide_eq_false g1; omega
  have hl : l.length ≤ 30 := by have := of_decide_eq_false g2; omega
  have kB := lBuild_ok m LA lc l w hL (by omega) (by omega)
  go_enter Tryd.func4, Tryd.ntmps4
  go_wp2_with fail
  refine kB.mono ?_
  rintro e w1 ⟨g, bg, R, EA, ec, rfl, ge, hb1⟩
  have lg := LG.of ht (by omega) hb1 ge
  clear kB ge hb1 g0 g1
  generalize Ge.bld m l = E at *
  go_wp2_with fail
  refine (lg.blocksB).mono ?_
  rintro e w2 ⟨⟨PA, pc, pls, CA, cc, rfl, hpl, hpe, hC⟩, hbx⟩
  replace lg := lg.next hbx
  clear hbx
  have hbl := Lib.hid (blks_lenB lg.er.ok)
  have hcl : (cuts R).length ≤ 1000000 := by
    have h1 : (cuts R).length ≤ R.length := Nat.le_trans (List.length_filter_le _ _) (by simp)
    have := lg.len
    omega
  go_wp2_with fail
  refine (lg.rblocks).mono ?_
  rintro e w3 ⟨⟨QA, qc, qls, DA, dc, rfl, hql, hqe, hD⟩, hbx⟩
  replace lg := lg.next hbx
  replace hpl := hpl.next hbx
  replace hC := (hC.below hbx).more hbx.size
  clear hbx
  generalize hcu : cuts R = cu at *
  clear hcu
  go_wp2_with fail
  refine (lAl w3 hpl hql hpe hqe hbl.out).mono ?_
  rintro e w4 ⟨rfl, hbx⟩
  replace lg := lg.next hbx
  replace hC := (hC.below hbx).more hbx.size
  replace hD := (hD.below hbx).more hbx.size
  clear hbx hpl hql hpe hqe hbl
  go_wp2_with fail
  refine (lEq w4 rfl rfl hC hD hcl).mono ?_
  rintro e w5 ⟨rfl, hbx⟩
  replace lg := lg.next hbx
  clear hbx hC hD
  go_wp2_with fail
  refine (lg.known).mono ?_
  rintro e x9 ⟨rfl, hbx⟩
  have hbz := after_ lg.bel hbx
  go_wp2_with fail
  go_ret
  exact ⟨rfl, hbz⟩
end Go.Proofs.YtjoomgojnpcbeaaDoor
end
