/- A bundle of texts: LdFu. -/
import Derived.Test.YtceobfigfmnacaaDoorD25
section
namespace Go.Proofs.YtceobfigfmnacaaDoor
open Go Go.RowKit
set_option maxRecDepth 100000
theorem p5Info : (Tryd.prog.info? 65).map (fun i => (i.zero, i.size, i.bytes)) = some (some (.agg #[.int .i64 0, .int .i64 0, .int .i64 0, .int .i64 0, .int .i64 0]), 5, 40) := by kernel_rfl
theorem M.grps_w {ps : List P5} {l : List Mv} (hok : mvsOk l) (hi : Ints ps l) : ∀ s ∈ grps ps l, ∀ x ∈ s, W64 x := fun s hs x hx => by
  have hR := rows_ok (ps := ps) hok.1
  unfold grps at hs
  obtain ⟨v, hv, rfl⟩ := List.mem_map.1 hs
  rw [sts_eq] at hx
  obtain ⟨u, hu, rfl⟩ := List.mem_map.1 hx
  unfold stv
  split
  · rename_i m hm
    exact (hi.l m (List.mem_of_getElem? hm)).1
  · unfold W64; omega
set_option maxHeartbeats 32000000 in
theorem dependFull_walk (many : Int) (x y : Mv) (w : World) (ht : Tab64 w) (hx : M.W64 x.st ∧ M.W64 x.old ∧ M.W64 x.new) (hy : M.W64 y.st ∧ M.W64 y.old ∧ M.W64 y.new) :
    Calls Tryd.prog 7 #[.int .i64 many, mvv x, mvv y] w fun e w' => e = .returned (.bool true) ∧ Below w.heap.size w w' := by
  obtain ⟨ip, hip, hzp0, hzp1, hzp2⟩ := info_parts p5Info
  have Hip := Lib.hid hip; have Hzp0 := Lib.hid hzp0; have Hzp1 := Lib.hid hzp1; have Hzp2 := Lib.hid hzp2
  clear hip hzp0 hzp1 hzp2
  obtain ⟨V, HW, x0, x1, hB, -⟩ := boxes2 w (mvc x) 26 (mvc y) 26
  have hV := HW.out
  go_enter Tryd.func7, Tryd.ntmps7
  by_cases h1 : many < 19990
  · have q0 : decide (many < 19990) = true := decide_eq_true h1
    have hund : undef = Value.tuple #[] := rfl
    go_wp2_with fail
    refine (known47_any V (ht.kept hB)).mono ?_
    rintro e w2 ⟨rfl, hb2⟩
    go_wp2_with fail
    go_ret
    exact ⟨rfl, after_ hB hb2⟩
  by_cases h2 : 20010 < many
  · have q0 : decide (many < 19990) = false := decide_eq_false h1
    have q1 : decide (20010 < many) = true := decide_eq_true h2
    go_wp2_with fail
    refine (known47_any V (ht.kept hB)).mono ?_
    rintro e w2 ⟨rfl, hb2⟩
    go_wp2_with fail
    go_ret
    exact ⟨rfl, after_ hB hb2⟩
  obtain ⟨n, rfl⟩ : ∃ n : Nat, many = n := ⟨many.toNat, by omega⟩
  have q0 : decide ((n : Int) < 19990) = false := decide_eq_false h1
  have q1 : decide (20010 < (n : Int)) = false := decide_eq_false h2
  obtain ⟨d0, d1, d2, d3, d4, d5⟩ := x0.c6'
  obtain ⟨e0, e1, e2, e3, e4, e5⟩ := x1.c6'
  have hn1 : 19990 ≤ n := by omega
  have hn2 : n ≤ 20010 := by omega
  clear h1 h2
  have HX0 := Lib.hid x0
  have HX1 := Lib.hid x1
  go_wp2_with (at_make; refine wpList_make_full _ rfl _ _ 22 rfl V.heap.size 65 ip _ 5 Tryd.underlying22 Hip.out Hzp0.out Hzp1.out .i64 .i64 _ _ n rfl rfl rfl rfl (by rw [Hzp2.out]; omega) (by unfold maxLen; omega) (Nat.le_refl _) ?_; intro w4 hown4 hg4; have hb4 : Below V.heap.size V w4 := (Below.refl _ _).grown hg4 (Nat.le_refl _) (by simp); obtain ⟨d0, d1, d2, d3, d4, d5⟩ := (HX0.out.below hb4).c6'; obtain ⟨e0, e1, e2, e3, e4, e5⟩ := (HX1.out.below hb4).c6'; obtain ⟨X, HX, xm, hbX, -⟩ := boxes1 w4 #[.int .i64 x.st, .int .i64 x.old, .int .i64 x.new, .int .i64 x.tw, .int .i64 x.cr, .int .i64 x.wk, .int .i64 y.st, .int .i64 y.old, .int .i64 y.new, .int .i64 y.tw, .int .i64 y.cr, .int .i64 y.wk] 26; have hX := HX.out)
  clear hX hV d0 d1 d2 d3 d4 d5 e0 e1 e2 e3 e4 e5 HX0 HX1 q0 q1
  have em := made_flat (cell := p5cell) (size := 5) (x0 := (⟨0, 0, 0, 0, 0⟩ : P5)) (by decide) (Value.agg #[.int .i64 0, .int .i64 0, .int .i64 0, .int .i64 0, .int .i64 0]).cells rfl n
  rw [em] at hown4
  clear em
  obtain ⟨ps, hps⟩ : ∃ ps, List.replicate n (⟨0, 0, 0, 0, 0⟩ : P5) = ps := ⟨_, rfl⟩
  have hpn : n = ps.length := by rw [← hps, List.length_replicate]
  have hz : ∀ p ∈ ps, p = ⟨0, 0, 0, 0, 0⟩ := fun p hp => by rw [← hps] at hp; exact (List.mem_replicate.1 hp).2
  have hS := Sl.of_own (cell := p5cell) (by decide) hown4
  rw [hps] at hS
  clear hown4 hps
  subst hpn
  have BX := after_ (after_ hB hb4) hbX
  have hin : M.Ints ps [x, y] := ⟨fun p hp => by rw [hz p hp]; unfold M.W64; dsimp only; omega, fun m hm => by
    simp only [List.mem_cons, List.not_mem_nil, or_false] at hm
    rcases hm with rfl | rfl
    · exact hx
    · exact hy⟩
  have lw : LW X X (some ⟨V.heap.size, 0, none⟩) (some ⟨w4.heap.size, 0, none⟩) ps [x, y] := ⟨Below.refl _ _, ht.kept BX, (hS.below hbX).more hbX.size, Sl.of_box xm rfl, hin⟩
  have HIN := Lib.hid hin
  clear hS hbX xm hb4 hB x0 x1 hz hin hx hy hg4 HX
  by_cases hok : M.mvsOk [x, y]
  case neg =>
    refine (lw.groupsNo ps.length 2 (by simp) hok).mono ?_
    rintro e x1 ⟨rfl, hbx⟩
    replace lw := lw.next hbx
    clear hbx
    go_wp2_with fail
    refine (lw.rgroupsNo ps.length 2 (by simp) hok).mono ?_
    rintro e x2 ⟨rfl, hbx⟩
    replace lw := lw.next hbx
    clear hbx
    go_wp2_with fail
    refine (rSameLists_any none none 0 0 [] [] _ ⟨Sl.nil_, fun s h => absurd h (by simp)⟩ ⟨Sl.nil_, fun s h => absurd h (by simp)⟩ (by simp) (fun s h => absurd h (by simp))).mono ?_
    rintro e x3 ⟨rfl, hbx⟩
    replace lw := lw.next hbx
    clear hbx
    rw [show decide (List.map (fun (x : SLc) => x.xs) [] = List.map (fun (x : SLc) => x.xs) []) = true from rfl]
    go_wp2_with fail
    refine (lw.legalNo ps.length 2 none 0 [] ⟨Sl.nil_, fun s h => absurd h (by simp)⟩ (by simp) (fun s h => absurd h (by simp)) (by simp) hok).mono ?_
    rintro e x4 ⟨rfl, hbx⟩
    replace lw := lw.next hbx
    clear hbx
    go_wp2_with fail
    refine (lw.rlegalNo ps.length 2 none 0 [] ⟨Sl.nil_, fun s h => absurd h (by simp)⟩ (by simp) (fun s h => absurd h (by simp)) (by simp) hok).mono ?_
    rintro e x5 ⟨rfl, hbx⟩
    replace lw := lw.next hbx
    clear hbx
    go_wp2_with fail
    refine lw.known.mono ?_
    rintro e x99 ⟨rfl, hb9⟩
    go_wp2_with fail
    go_ret
    exact ⟨rfl, after_ BX (after_ lw.bel hb9)⟩
  case pos =>
    by_cases hfl : 20000 < ps.length
    case pos =>
      refine (lw.groupsFull ps.length 2 hfl (by simp) hok).mono ?_
      rintro e x1 ⟨rfl, hbx⟩
      replace lw := lw.next hbx
      clear hbx
      go_wp2_with fail
      refine (lw.rgroupsFull ps.length 2 hfl (by simp) hok).mono ?_
      rintro e x2 ⟨rfl, hbx⟩
      replace lw := lw.next hbx
      clear hbx
      go_wp2_with fail
      refine (rSameLists_any none none 0 0 [] [] _ ⟨Sl.nil_, fun s h => absurd h (by simp)⟩ ⟨Sl.nil_, fun s h => absurd h (by simp)⟩ (by simp) (fun s h => absurd h (by simp))).mono ?_
      rintro e x3 ⟨rfl, hbx⟩
      replace lw := lw.next hbx
      clear hbx
      rw [show decide (List.map (fun (x : SLc) => x.xs) [] = List.map (fun (x : SLc) => x.xs) []) = true from rfl]
      go_wp2_with fail
      refine (lw.legalFull ps.length 2 none 0 [] ⟨Sl.nil_, fun s h => absurd h (by simp)⟩ (by simp) (fun s h => absurd h (by simp)) hfl (by simp) hok).mono ?_
      rintro e x4 ⟨rfl, hbx⟩
      replace lw := lw.next hbx
      clear hbx
      go_wp2_with fail
      refine (lw.rlegalFull ps.length 2 none 0 [] ⟨Sl.nil_, fun s h => absurd h (by simp)⟩ (by simp) (fun s h => absurd h (by simp)) hfl (by simp) hok).mono ?_
      rintro e x5 ⟨rfl, hbx⟩
      replace lw := lw.next hbx
      clear hbx
      go_wp2_with fail
      refine lw.known.mono ?_
      rintro e x99 ⟨rfl, hb9⟩
      go_wp2_with fail
      go_ret
      exact ⟨rfl, after_ BX (after_ lw.bel hb9)⟩
    case neg =>
      have hgl := M.grps_len (ps := ps) hok
      have hgw := M.grps_w (ps := ps) hok HIN.out
      refine (lw.groups ps.length 2 (by omega) (by simp) hok).mono ?_
      rintro e x1 ⟨⟨GA, gc, gs, rfl, g0, hgs⟩, hbx⟩
      replace lw := lw.next hbx
      clear hbx
      have g1 := g0.ll
      clear g0
      go_wp2_with fail
      refine (lw.rgroups ps.length 2 (by omega) (by simp) hok).mono ?_
      rintro e x2 ⟨⟨HA, hc, hs, rfl, h0, hhs⟩, hbx⟩
      replace lw := lw.next hbx
      replace g1 := g1.next hbx
      clear hbx
      have h1 := h0.ll
      clear h0
      have hl1 : gs.length ≤ 1000000 := by
        have := congrArg List.length hgs
        rw [List.length_map] at this
        omega
      have hl2 : ∀ s ∈ gs, s.xs.length ≤ 1000000 := fun s hm => by
        have h2 : s.xs ∈ M.grps ps [x, y] := by rw [← hgs]; exact List.mem_map.2 ⟨s, hm, rfl⟩
        have := hgl.2 _ h2
        omega
      have hl3 : hs.length ≤ 1000000 := by
        have := congrArg List.length hhs
        rw [List.length_map] at this
        omega
      have hl4 : ∀ s ∈ hs, s.xs.length ≤ 1000000 ∧ ∀ x ∈ s.xs, M.W64 x := fun s hm => by
        have h2 : s.xs ∈ M.grps ps [x, y] := by rw [← hhs]; exact List.mem_map.2 ⟨s, hm, rfl⟩
        have := hgl.2 _ h2
        exact ⟨by omega, hgw _ h2⟩
      have HL3 := Lib.hid hl3
      have HL4 := Lib.hid hl4
      have KS := Lib.hid (fun (W : World) (a : LL W GA gs) (b : LL W HA hs) => rSameLists_any GA HA gc hc gs hs W a b hl1 hl2)
      rw [hgs, hhs, decide_eq_true rfl] at KS
      clear hgs hhs hgl hl1 hl2 hl3 hl4 hgw
      go_wp2_with fail
      refine (KS.out _ g1 h1).mono ?_
      rintro e x3 ⟨rfl, hbx⟩
      replace lw := lw.next hbx
      replace g1 := g1.next hbx
      replace h1 := h1.next hbx
      clear hbx
      go_wp2_with fail
      refine (lw.legal ps.length 2 HA hc hs h1 (by have := HL3.out; omega) (fun s hm => ⟨by have := (HL4.out s hm).1; omega, (HL4.out s hm).2⟩) (by omega) (by simp) hok).mono ?_
      rintro e x4 ⟨rfl, hbx⟩
      replace lw := lw.next hbx
      replace g1 := g1.next hbx
      replace h1 := h1.next hbx
      clear hbx
      go_wp2_with fail
      refine (lw.rlegal ps.length 2 HA hc hs h1 (by have := HL3.out; omega) (fun s hm => by have := (HL4.out s hm).1; omega) (by omega) (by simp) hok).mono ?_
      rintro e x5 ⟨rfl, hbx⟩
      replace lw := lw.next hbx
      replace g1 := g1.next hbx
      replace h1 := h1.next hbx
      clear hbx
      generalize M.legal ps [x, y] (hs.map (·.xs)) = lg
      have ql : (lg == lg) = true := by simp
      go_wp2_with fail
      refine lw.known.mono ?_
      rintro e x99 ⟨rfl, hb9⟩
      go_wp2_with fail
      go_ret
      exact ⟨rfl, after_ BX (after_ lw.bel hb9)⟩
end Go.Proofs.YtceobfigfmnacaaDoor
end
