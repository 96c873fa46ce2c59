/- A bundle of texts: Co4, Co5, BuB, Rf3. -/
import Derived.Test.YtciolgmljpamlaaGreatDoorC23
import Derived.Test.YtciolgmljpamlaaGreatDoorC29
import Derived.Test.YtciolgmljpamlaaGreatDoorC25
import Derived.Test.YtciolgmljpamlaaGreatDoorC27
import Derived.Test.YtciolgmljpamlaaGreatDoorC26
section
namespace Go.Proofs.YtciolgmljpamlaaGreatDoor
open Go Go.RowKit
set_option maxRecDepth 100000
def M.chLo (b : Int) : Int := if b = 1 then 2 else if b = 2 then 7 else if b = 3 then 14 else 0
def M.chHi (b : Int) : Int := if b = 1 then 6 else if b = 2 then 13 else if b = 3 then 51 else 0
def M.chOk (b : Int) : Bool := decide (1 ≤ b ∧ b ≤ 3)
set_option maxHeartbeats 4000000 in
theorem channels1 (w : World) : Calls Tryz.prog 71 #[.int .i64 1] w fun e w' => e = .returned (.tuple #[.int .i64 2, .int .i64 6, .bool true]) ∧ w = w' := by
  go_enter Tryz.func71, Tryz.ntmps71
  go_wp2_with fail
  go_loop [6] (fun h => ∃ k : Nat, 2 ≤ k ∧ k ≤ 6 ∧ h = .int .i64 k) (fun h => 6 - (intOf h).toNat)
  case atStart => exact ⟨2, by omega, by omega, rfl⟩
  case round =>
    obtain ⟨k, hk1, hk2, rfl⟩ := hrel
    have kB := band_any ((k : Int) + 1) w
    by_cases e : k = 6
    · subst e
      rw [show M.band ((6 : Nat) + 1 : Int) = 2 by decide] at kB
      go_wp2_with fail
      refine kB.mono ?_
      rintro e w1 ⟨rfl, rfl⟩
      go_wp2_with fail
      go_ret3
      exact ⟨rfl, rfl⟩
    · rw [show M.band ((k : Int) + 1) = 1 by unfold M.band; repeat' split; all_goals omega] at kB
      go_wp2_with fail
      refine kB.mono ?_
      rintro e w1 ⟨rfl, rfl⟩
      go_wp2_with fail
      go_round
      case rel => exact ⟨k + 1, by omega, by omega, by go_num⟩
      case measure => simp [intOf]; omega
set_option maxHeartbeats 4000000 in
theorem channels2 (w : World) : Calls Tryz.prog 71 #[.int .i64 2] w fun e w' => e = .returned (.tuple #[.int .i64 7, .int .i64 13, .bool true]) ∧ w = w' := by
  go_enter Tryz.func71, Tryz.ntmps71
  go_wp2_with fail
  go_loop [6] (fun h => ∃ k : Nat, 7 ≤ k ∧ k ≤ 13 ∧ h = .int .i64 k) (fun h => 13 - (intOf h).toNat)
  case atStart => exact ⟨7, by omega, by omega, rfl⟩
  case round =>
    obtain ⟨k, hk1, hk2, rfl⟩ := hrel
    have kB := band_any ((k : Int) + 1) w
    by_cases e : k = 13
    · subst e
      rw [show M.band ((13 : Nat) + 1 : Int) = 3 by decide] at kB
      go_wp2_with fail
      refine kB.mono ?_
      rintro e w1 ⟨rfl, rfl⟩
      go_wp2_with fail
      go_ret3
      exact ⟨rfl, rfl⟩
    · rw [show M.band ((k : Int) + 1) = 2 by unfold M.band; repeat' split; all_goals omega] at kB
      go_wp2_with fail
      refine kB.mono ?_
      rintro e w1 ⟨rfl, rfl⟩
      go_wp2_with fail
      go_round
      case rel => exact ⟨k + 1, by omega, by omega, by go_num⟩
      case measure => simp [intOf]; omega
set_option maxHeartbeats 4000000 in
theorem channels3 (w : World) : Calls Tryz.prog 71 #[.int .i64 3] w fun e w' => e = .returned (.tuple #[.int .i64 14, .int .i64 51, .bool true]) ∧ w = w' := by
  go_enter Tryz.func71, Tryz.ntmps71
  go_wp2_with fail
  go_loop [6] (fun h => ∃ k : Nat, 14 ≤ k ∧ k ≤ 51 ∧ h = .int .i64 k) (fun h => 51 - (intOf h).toNat)
  case atStart => exact ⟨14, by omega, by omega, rfl⟩
  case round =>
    obtain ⟨k, hk1, hk2, rfl⟩ := hrel
    have kB := band_any ((k : Int) + 1) w
    by_cases e : k = 51
    · subst e
      rw [show M.band ((51 : Nat) + 1 : Int) = 0 by decide] at kB
      go_wp2_with fail
      refine kB.mono ?_
      rintro e w1 ⟨rfl, rfl⟩
      go_wp2_with fail
      go_ret3
      exact ⟨rfl, rfl⟩
    · rw [show M.band ((k : Int) + 1) = 3 by unfold M.band; repeat' split; all_goals omega] at kB
      go_wp2_with fail
      refine kB.mono ?_
      rintro e w1 ⟨rfl, rfl⟩
      go_wp2_with fail
      go_round
      case rel => exact ⟨k + 1, by omega, by omega, by go_num⟩
      case measure => simp [intOf]; omega
set_option maxHeartbeats 4000000 in
theorem channelsNo (b : Int) (w : World) (h1 : b ≠ 1) (h2 : b ≠ 2) (h3 : b ≠ 3) : Calls Tryz.prog 71 #[.int .i64 b] w fun e w' => e = .returned (.tuple #[.int .i64 0, .int .i64 0, .bool false]) ∧ w = w' := by
  have q1 : (b == 1) = false := by simp [h1]
  have q2 : (b == 2) = false := by simp [h2]
  have q3 : (b == 3) = false := by simp [h3]
  go_enter Tryz.func71, Tryz.ntmps71
  go_wp2_with fail
  go_ret3
  exact ⟨rfl, rfl⟩
theorem channels_any (b : Int) (w : World) : Calls Tryz.prog 71 #[.int .i64 b] w fun e w' => e = .returned (.tuple #[.int .i64 (M.chLo b), .int .i64 (M.chHi b), .bool (M.chOk b)]) ∧ w = w' := by
  by_cases h1 : b = 1
  · subst h1; exact channels1 w
  by_cases h2 : b = 2
  · subst h2; exact channels2 w
  by_cases h3 : b = 3
  · subst h3; exact channels3 w
  have e1 : M.chLo b = 0 := by unfold M.chLo; rw [if_neg h1, if_neg h2, if_neg h3]
  have e2 : M.chHi b = 0 := by unfold M.chHi; rw [if_neg h1, if_neg h2, if_neg h3]
  have e3 : M.chOk b = false := decide_eq_false (by omega)
  rw [e1, e2, e3]
  exact channelsNo b w h1 h2 h3
end Go.Proofs.YtciolgmljpamlaaGreatDoor
end

section
namespace Go.Proofs.YtciolgmljpamlaaGreatDoor
open Go Go.RowKit
set_option maxRecDepth 100000
def M.cbOk (W H : Int) (G P : List Int) (l : List St) : Prop := l.length ≤ 64 ∧ M.tvalid W H G P = true ∧ (∀ k (h : k + 1 < l.length), (l[k]'(by omega)).id < l[k + 1].id) ∧ ∀ k (h : k < l.length), M.okS W H G P l[k] = true
open Classical in
noncomputable def M.cbR (W H : Int) (G P : List Int) (l : List St) : Int := if M.cbOk W H G P l then 0 else 2
def M.cbTo (W H : Int) (G P : List Int) (es : List SE) (k : Nat) : Prop := ∀ j (hj : j < es.length), j < k → (∀ (h0 : 0 < j), (es[j - 1]'(by omega)).s.id < es[j].s.id) ∧ M.okS W H G P es[j].s = true
set_option maxHeartbeats 8000000 in
theorem checkBuild_any (W H : Int) (GA PA : Option Addr) (gc pc : Nat) (G P : List Int) (LA : Option Addr) (lc : Nat) (es : List SE) (w : World) (ht : Tab w) (hg : Sl 1 icell w w.heap.size GA G) (hp : Sl 1 icell w w.heap.size PA P) (hL : Sl 8 secell w w.heap.size LA es) (hP : Pats w es)
    (hgl : G.length ≤ 9223372036854775807) (hpl' : P.length ≤ 9223372036854775807) (hl : es.length ≤ 9223372036854775807) (hpl : ∀ e ∈ es, e.s.pat.length ≤ 1000) :
    Calls Tryz.prog 72 #[tv W H GA PA G.length gc P.length pc, .slice LA es.length lc] w fun e w' => e = .returned (.int .i64 (M.cbR W H G P (es.map (·.s)))) ∧ Below w.heap.size w w' := by
  obtain ⟨V, HW, x0, hB, -⟩ := boxes1 w #[.int .i64 W, .int .i64 H, .slice GA G.length gc, .slice PA P.length pc] 24
  have hg1 := (hg.below hB).more hB.size
  have hp1 := (hp.below hB).more hB.size
  have hT1 := ht.kept hB
  obtain ⟨c0, c1, c2, c3⟩ := x0.c4
  obtain ⟨r, hr⟩ : ∃ r, M.cbR W H G P (es.map (·.s)) = r := ⟨_, rfl⟩
  have HNO : Hid (¬ M.cbOk W H G P (es.map (·.s)) → 2 = r) := Lib.hid (fun h => by rw [← hr]; unfold M.cbR; rw [if_neg h])
  have HN1 : Hid (64 < es.length → 2 = r) := Lib.hid (fun h => HNO.out (fun o => by have := o.1; rw [List.length_map] at this; omega))
  have HN2 : Hid (M.tvalid W H G P = false → 2 = r) := Lib.hid (fun h => HNO.out (fun o => by have := o.2.1; rw [h] at this; cases this))
  have HN3 : Hid (∀ k (hk : k < es.length) (h0 : 0 < k), (es[k]).s.id ≤ (es[k - 1]'(by omega)).s.id → 2 = r) := Lib.hid (fun k hk h0 h => HNO.out (fun o => by
    obtain ⟨j, rfl⟩ : ∃ j, k = j + 1 := ⟨k - 1, by omega⟩
    have := o.2.2.1 j (by rw [List.length_map]; exact hk)
    simp only [List.getElem_map, Nat.add_sub_cancel] at this h
    omega))
  have HN4 : Hid (∀ k (hk : k < es.length), M.okS W H G P es[k].s = false → 2 = r) := Lib.hid (fun k hk h => HNO.out (fun o => by
    have := o.2.2.2 k (by rw [List.length_map]; exact hk)
    rw [List.getElem_map, h] at this; cases this))
  have HYES : Hid (es.length ≤ 64 → M.tvalid W H G P = true → M.cbTo W H G P es es.length → 0 = r) := Lib.hid (fun h1 h2 h3 => by
    rw [← hr]; unfold M.cbR
    rw [if_pos]
    refine ⟨by rw [List.length_map]; exact h1, h2, fun k h => ?_, fun k h => ?_⟩
    · rw [List.length_map] at h
      have := (h3 (k + 1) h h).1 (by omega)
      simpa using this
    · rw [List.length_map] at h
      rw [List.getElem_map]
      exact (h3 k h h).2)
  rw [hr]
  clear hr
  have hV := HW.out
  by_cases hn : 64 < es.length
  · have HF := Lib.hid (HN1.out hn)
    have q : decide (64 < (es.length : Int)) = true := decide_eq_true (by omega)
    have q' : decide (64 < es.length) = true := decide_eq_true hn
    go_enter Tryz.func72, Tryz.ntmps72
    go_wp2_with fail
    go_ret
    exact ⟨ret_int HF.out, hB⟩
  have q : decide (64 < (es.length : Int)) = false := decide_eq_false (by omega)
  have q' : decide (64 < es.length) = false := decide_eq_false hn
  cases hc : M.tvalid W H G P with
  | false =>
    have HF := Lib.hid (HN2.out hc)
    have kR := reach_no W H GA PA gc pc G P none 0 [] V hg1 hp1 Sl.nil_ (fun e he => by cases he) (by decide) hgl hpl' (fun e he => by cases he) (by unfold M.chk; rw [hc]; rfl)
    go_enter Tryz.func72, Tryz.ntmps72
    go_wp2_with fail
    refine kR.mono ?_
    rintro e w1 ⟨rfl, hb1⟩
    go_wp2_with fail
    go_ret
    exact ⟨ret_int HF.out, after_ hB hb1⟩
  | true =>
    have kR := reach_ok W H GA PA gc pc G P none 0 [] V hT1 hg1 hp1 Sl.nil_ (fun e he => by cases he) (by decide) hc (fun e he => by cases he)
    generalize M.total P (M.reachL W H G (([] : List SE).map (·.s))) = rt at kR
    have HY := Lib.hid (HYES.out (by omega) hc)
    have HC := Lib.hid hc
    clear hc HNO HN1 HN2 HYES
    go_enter Tryz.func72, Tryz.ntmps72
    go_wp2_with fail
    refine kR.mono ?_
    rintro e w1 ⟨rfl, hb1⟩
    have B1 := after_ hB hb1
    have y0 := x0.below hb1
    clear c0 c1 c2 c3 hV
    go_wp2_with fail
    go_loopw [7, 8, 9, 10, 24] (fun _ _ _ _ i wr => ∃ k : Nat, k ≤ es.length ∧ i = .int .i64 k ∧ Below w.heap.size w wr ∧ Below w1.heap.size w1 wr ∧ Hid (M.cbTo W H G P es k)) (fun _ _ _ _ i _ => es.length - (intOf i).toNat)
    case atStart => exact ⟨0, Nat.zero_le _, rfl, B1, Below.refl _ _, Lib.hid (fun j _ h => absurd h (by omega))⟩
    case round =>
      obtain ⟨k, hk, rfl, hBw, hBr, HN⟩ := hrel
      by_cases hlt : k < es.length
      · obtain ⟨la, hla, hlb, a0, a1, a2, a3, a4, a5, a6, a7⟩ := (hL.below hBw).st8 hlt
        have hS := (hP.below hBw).at_ hlt
        have hpk := hpl _ (List.getElem_mem hlt)
        have HK4 := Lib.hid (HN4.out k hlt)
        have HNX : Hid ((∀ (h0 : 0 < k), (es[k - 1]'(by omega)).s.id < es[k].s.id) → M.okS W H G P es[k].s = true → M.cbTo W H G P es (k + 1)) := Lib.hid (fun h1 h2 j h3 h4 => by
          by_cases e : j = k
          · subst e; exact ⟨h1, h2⟩
          · exact HN.out j h3 (by omega))
        obtain ⟨U, HU, u0, hBU, -⟩ := boxes1 wr (stc es[k].s es[k].A es[k].c) 40
        have BU := after_ hBw hBU
        obtain ⟨b0, b1, b2, b3, b4, b5, b6, b7⟩ := u0.c8
        obtain ⟨c0, c1, c2, c3⟩ := ((y0.below hBr).below hBU).c4
        have hgU := (hg.below BU).more BU.size
        have hpU := (hp.below BU).more BU.size
        have hSU := (hS.below hBU).more hBU.size
        have l0 := u0.lt
        have hU := HU.out
        by_cases h0 : 0 < k
        · obtain ⟨la2, hla2, hlb2, p0, -⟩ := (hL.below hBw).st8 (k := k - 1) (by omega)
          obtain rfl : la = la2 := Option.some.inj (hla.symm.trans hla2)
          have l2 : (la.add ((k - 1) * 8)).block < U.heap.size := Nat.lt_of_lt_of_le (Nat.lt_of_lt_of_le hlb2 hBw.size) hBU.size
          have s0 := (hBU.cell (p := la.add ((k - 1) * 8)) (Nat.lt_of_lt_of_le hlb2 hBw.size)).trans p0
          clear hla2 p0
          have HN3' := Lib.hid (HN3.out k hlt h0)
          obtain ⟨pid, hpid⟩ : ∃ pid, (es[k - 1]'(by omega)).s.id = pid := ⟨_, rfl⟩
          rw [hpid] at s0 HN3'
          by_cases hc : es[k].s.id ≤ pid
          · have q2 : decide (es[k].s.id ≤ pid) = true := decide_eq_true hc
            have HF := Lib.hid (HN3'.out hc)
            subst hla
            go_wp2_with fail
            clear hU
            refine wp_region_kept U.heap.size U (by kernel_rfl) (by kernel_rfl) (Below.refl _ _) ?_
            repeat (go_big_quiet_step (fail))
            refine wpQuiet_nil ?_
            rintro w5 ⟨⟨_, hb5⟩, rfl⟩
            have B5 := after_ BU hb5
            go_wp2_with fail
            go_ret
            exact ⟨ret_int HF.out, B5⟩
          · have q2 : decide (es[k].s.id ≤ pid) = false := decide_eq_false hc
            subst hla
            go_wp2_with fail
            clear hU
            refine wp_region_kept U.heap.size U (by kernel_rfl) (by kernel_rfl) (Below.refl _ _) ?_
            repeat (go_big_quiet_step (fail))
            refine wpQuiet_nil ?_
            rintro w5 ⟨⟨_, hb5⟩, rfl⟩
            have B5 := after_ BU hb5
            clear b0 b1 b2 b3 b4 b5 b6 b7 c0 c1 c2 c3
            have v0 := u0.below hb5
            have t0 := (((y0.below hBr).below hBU).below hb5)
            obtain ⟨b0, b1, b2, b3, b4, b5, b6, b7⟩ := v0.c8
            obtain ⟨c0, c1, c2, c3⟩ := t0.c4
            cases hv : M.okS W H G P es[k].s with
            | false =>
              have HF := Lib.hid (HK4.out hv)
              have kF := field_no W H GA PA gc pc G P es[k].s es[k].A es[k].c es[k].s.x es[k].s.y w5 ((hgU.below hb5).more hb5.size) ((hpU.below hb5).more hb5.size) ((hSU.below hb5).more hb5.size) hgl hpl' (by omega) hv
              go_wp2_with fail
              refine kF.mono ?_
              rintro e w6 ⟨rfl, hb6⟩
              go_wp2_with fail
              go_ret
              exact ⟨ret_int HF.out, after_ B5 hb6⟩
            | true =>
              have HX := Lib.hid (HNX.out (fun _ => by rw [hpid]; omega) hv)
              have kF := field_ok W H GA PA gc pc G P es[k].s es[k].A es[k].c es[k].s.x es[k].s.y w5 (ht.kept B5) ((hgU.below hb5).more hb5.size) ((hpU.below hb5).more hb5.size) ((hSU.below hb5).more hb5.size) hv
              go_wp2_with fail
              refine kF.mono ?_
              rintro e w6 ⟨rfl, hb6⟩
              go_wp2_with fail
              go_roundw
              case rel => exact ⟨k + 1, hlt, by go_num, after_ B5 hb6, after_ (after_ (after_ hBr hBU) hb5) hb6, HX⟩
              case measure => simp [intOf]; omega
        · have hk0 : decide (0 < k) = false := decide_eq_false h0
          subst hla
          go_wp2_with fail
          clear hU
          refine wp_region_kept U.heap.size U (by kernel_rfl) (by kernel_rfl) (Below.refl _ _) ?_
          repeat (go_big_quiet_step (fail))
          refine wpQuiet_nil ?_
          rintro w5 ⟨⟨_, hb5⟩, rfl⟩
          have B5 := after_ BU hb5
          clear b0 b1 b2 b3 b4 b5 b6 b7 c0 c1 c2 c3
          have v0 := u0.below hb5
          have t0 := (((y0.below hBr).below hBU).below hb5)
          obtain ⟨b0, b1, b2, b3, b4, b5, b6, b7⟩ := v0.c8
          obtain ⟨c0, c1, c2, c3⟩ := t0.c4
          cases hv : M.okS W H G P es[k].s with
          | false =>
            have HF := Lib.hid (HK4.out hv)
            have kF := field_no W H GA PA gc pc G P es[k].s es[k].A es[k].c es[k].s.x es[k].s.y w5 ((hgU.below hb5).more hb5.size) ((hpU.below hb5).more hb5.size) ((hSU.below hb5).more hb5.size) hgl hpl' (by omega) hv
            go_wp2_with fail
            refine kF.mono ?_
            rintro e w6 ⟨rfl, hb6⟩
            go_wp2_with fail
            go_ret
            exact ⟨ret_int HF.out, after_ B5 hb6⟩
          | true =>
            have HX := Lib.hid (HNX.out (fun h => absurd h h0) hv)
            have kF := field_ok W H GA PA gc pc G P es[k].s es[k].A es[k].c es[k].s.x es[k].s.y w5 (ht.kept B5) ((hgU.below hb5).more hb5.size) ((hpU.below hb5).more hb5.size) ((hSU.below hb5).more hb5.size) hv
            go_wp2_with fail
            refine kF.mono ?_
            rintro e w6 ⟨rfl, hb6⟩
            go_wp2_with fail
            go_roundw
            case rel => exact ⟨k + 1, hlt, by go_num, after_ B5 hb6, after_ (after_ (after_ hBr hBU) hb5) hb6, HX⟩
            case measure => simp [intOf]; omega
      · have e : k = es.length := by omega
        subst e
        have HF := Lib.hid (HY.out HN.out)
        go_wp2_with fail
        go_ret
        exact ⟨ret_int HF.out, hBw⟩
end Go.Proofs.YtciolgmljpamlaaGreatDoor
end

section
namespace Go.Proofs.YtciolgmljpamlaaGreatDoor
open Go Go.RowKit
def M.inB (b : Int) (s : St) : St := ⟨s.id, s.x, s.y, s.pw, s.h, s.pat, b, M.chLo b⟩
def M.ppl (W H : Int) (G P : List Int) (s : St) : Int := M.total P (M.area W H G s)
def M.ls0 (W H : Int) (G P : List Int) (s t : St) : Int := M.total P (M.lost W H G s 30 [t])
namespace M
theorem lost_off {W H : Int} {G P : List Int} {a b : St} {r : Int} (hP : ∀ g ∈ P, 0 ≤ g ∧ g ≤ 1000000) (hr : r ≤ 30) (h : total P (lost W H G a 30 [b]) = 0) : total P (lost W H G a r [b]) = 0 := by
  have h1 := total_sub (P := P) (l := lost W H G a r [b]) (l' := lost W H G a 30 [b]) (n := (W * H).toNat) hP lost_inN (fun x hx => by
    rw [lost_mem] at hx ⊢
    obtain ⟨i, e, hi, hc, c, hcm, hd⟩ := hx
    exact ⟨i, e, hi, hc, c, hcm, by omega⟩)
  have h2 : 0 ≤ total P (lost W H G a r [b]) := by
    rw [total_sumB (n := (W * H).toNat) lost_inN]
    have := sumB_mono (P := P) hP (p := fun _ => false) (q := fun i => decide ((i : Int) ∈ lost W H G a r [b])) (n := (W * H).toNat) (fun i _ h => by cases h)
    have h0 : ∀ n, sumB P n (fun _ => false) = 0 := fun n => by
      induction n with
      | zero => rfl
      | succ n ih => rw [sumB_succ, ih]; rfl
    rw [h0] at this
    exact this
  omega
theorem lossO_eq {W H : Int} {G P : List Int} {a b : St} {o : Int} (hP : ∀ g ∈ P, 0 ≤ g ∧ g ≤ 1000000) : lossO W H G P a b (sm W H G P a b) o = total P (lost W H G a (ratio o) [b]) := by
  have hs : sm W H G P a b = total P (lost W H G a 30 [b]) := by unfold sm lossO; rw [if_neg (by decide)]; rfl
  have hr : ratio o ≤ 30 := by unfold ratio; split <;> omega
  unfold lossO
  split
  · rename_i h
    rw [lost_off hP hr (by rw [← hs]; exact h)]
  · rfl
theorem sm_eq (W H : Int) (G P : List Int) (a b : St) : sm W H G P a b = ls0 W H G P a b := by
  unfold sm lossO ls0; rw [if_neg (by decide)]; rfl
theorem prF_eq {W H : Int} {G P : List Int} {a b : St} {o : Int} (hP : ∀ g ∈ P, 0 ≤ g ∧ g ≤ 1000000) : prF W H G P a b (ppl W H G P a) (ppl W H G P b) o = forb W H G P a b o := by
  unfold prF; rw [lossO_eq hP, lossO_eq hP]; rfl
theorem tm_eq (W H : Int) (G P : List Int) (a b : St) : tooMuch (ppl W H G P a) (ppl W H G P b) (sm W H G P a b) (sm W H G P b a) = forb W H G P a b 0 := by
  rw [sm_eq, sm_eq]; rfl
theorem forb_sym (W H : Int) (G P : List Int) (a b : St) : forb W H G P a b 0 = forb W H G P b a 0 := by
  unfold forb; rw [Bool.or_comm]; rfl
theorem prP_eq {W H : Int} {G P : List Int} {a b : St} {lo hi : Int} (hP : ∀ g ∈ P, 0 ≤ g ∧ g ≤ 1000000) : prP W H G P a b (ppl W H G P a) (ppl W H G P b) lo hi = bpT St.id (forb W H G P) lo hi a b := by
  have e1 : max lo (lo - -1) = lo + 1 := by omega
  have e2 : min hi (hi - -1) = hi := by omega
  have e3 : max lo (lo - 0) = lo := by omega
  have e4 : min hi (hi - 0) = hi := by omega
  have e5 : max lo (lo - 1) = lo := by omega
  have e6 : min hi (hi - 1) = hi - 1 := by omega
  unfold prP pr1 pr0 pr2 bpT bpO
  rw [prF_eq hP, prF_eq hP, tm_eq, e1, e2, e3, e4, e5, e6]
theorem prL_eq (W H : Int) (G P : List Int) (a b : St) (lo hi : Int) : prL W H G P a b (ppl W H G P a) (ppl W H G P b) lo hi = ld1 St.id (forb W H G P) (ls0 W H G P) lo hi a b ++ ld1 St.id (forb W H G P) (ls0 W H G P) lo hi b a := by
  unfold prL ld1 ld
  rw [tm_eq, forb_sym W H G P b a, sm_eq, sm_eq]
  split <;> rfl
def gP (W H : Int) (G P : List Int) (b : Int) (l : List St) : List P5 := bP St.id (forb W H G P) (chLo b) (chHi b) (l.map (inB b))
def gL (W H : Int) (G P : List Int) (b : Int) (l : List St) : List P5 := rL St.id (forb W H G P) (ls0 W H G P) (chLo b) (chHi b) (l.map (inB b))
def gC (W H : Int) (G P : List Int) (b : Int) (l : List St) : List P4 := bC St.id (forb W H G P) (ls0 W H G P) (chLo b) (chHi b) (ppl W H G P) (l.map (inB b))
theorem inB_ok {W H : Int} {G P : List Int} {b : Int} {s : St} (hb : 1 ≤ b ∧ b ≤ 3) (h : okS W H G P s = true) : okS W H G P (inB b s) = true := by
  obtain ⟨h1, h2, h3, h4⟩ := okS_iff.1 h
  obtain ⟨a1, a2, a3, a4, a5, a6, a7⟩ := svalid_iff.1 h1
  refine okS_iff.2 ⟨svalid_iff.2 ⟨a1, a2, a3, a4, ?_, ?_, a7⟩, h2, h3, h4⟩
  · show 2 ≤ chLo b ∧ chLo b ≤ 51
    rcases (show b = 1 ∨ b = 2 ∨ b = 3 by omega) with e | e | e <;> subst e <;> decide
  · show b = band (chLo b)
    rcases (show b = 1 ∨ b = 2 ∨ b = 3 by omega) with e | e | e <;> subst e <;> decide
def rising (l : List St) : Prop := l.Pairwise fun s t => s.id < t.id
theorem rising_of {l : List St} (h : ∀ k (h : k + 1 < l.length), (l[k]'(by omega)).id < l[k + 1].id) : rising l := by
  unfold rising
  rw [List.pairwise_iff_getElem]
  intro i j hi hj hij
  induction j with
  | zero => omega
  | succ j ih =>
    have h1 := h j hj
    by_cases e : i = j
    · subst e; exact h1
    · have := ih (by omega) (by omega); omega
theorem rising_in {b : Int} {l : List St} (h : rising l) : (l.map (inB b)).Pairwise fun s t => s.id < t.id := by
  rw [List.pairwise_map]; exact h
end M
end Go.Proofs.YtciolgmljpamlaaGreatDoor
end

section
namespace Go.Proofs.YtciolgmljpamlaaGreatDoor
open Go Go.RowKit
set_option maxRecDepth 100000
set_option maxHeartbeats 4000000 in
theorem low16_ok (b : Int) (w : World) (hb : 1 ≤ b ∧ b ≤ 3) : Calls Tryz.prog 80 #[.int .i64 b] w fun e w' => e = .returned (.int .i64 (M.chLo b)) ∧ Below w.heap.size w w' := by
  obtain ⟨V, HW, x0, hB, -⟩ := boxes1 w #[.int .i64 0, .int .i64 2, .int .i64 7, .int .i64 14] 3
  obtain ⟨c0, c1, c2, c3⟩ := x0.c4
  have hV := HW.out
  rcases (show b = 1 ∨ b = 2 ∨ b = 3 by omega) with e | e | e <;> subst e <;>
    (go_enter Tryz.func80, Tryz.ntmps80
     go_wp2_with fail
     go_ret
     exact ⟨rfl, hB⟩)
set_option maxHeartbeats 4000000 in
theorem high16_ok (b : Int) (w : World) (hb : 1 ≤ b ∧ b ≤ 3) : Calls Tryz.prog 81 #[.int .i64 b] w fun e w' => e = .returned (.int .i64 (M.chHi b)) ∧ Below w.heap.size w w' := by
  obtain ⟨V, HW, x0, hB, -⟩ := boxes1 w #[.int .i64 0, .int .i64 6, .int .i64 13, .int .i64 51] 3
  obtain ⟨c0, c1, c2, c3⟩ := x0.c4
  have hV := HW.out
  rcases (show b = 1 ∨ b = 2 ∨ b = 3 by omega) with e | e | e <;> subst e <;>
    (go_enter Tryz.func81, Tryz.ntmps81
     go_wp2_with fail
     go_ret
     exact ⟨rfl, hB⟩)
theorem M.rising_iff {es : List SE} : M.rising (es.map (·.s)) ↔ ∀ j (hj : j < es.length) (h0 : 0 < j), (es[j - 1]'(by omega)).s.id < es[j].s.id := by
  constructor
  · intro h j hj h0
    have := List.pairwise_iff_getElem.1 h (j - 1) j (by rw [List.length_map]; omega) (by rw [List.length_map]; exact hj) (by omega)
    simpa using this
  · intro h
    refine M.rising_of (fun k hk => ?_)
    rw [List.length_map] at hk
    have := h (k + 1) hk (by omega)
    simpa using this
set_option maxHeartbeats 8000000 in
theorem rising16_any (LA : Option Addr) (lc : Nat) (es : List SE) (w : World) (hL : Sl 8 secell w w.heap.size LA es) (hl : es.length ≤ 9223372036854775806) :
    Calls Tryz.prog 25 #[.slice LA es.length lc] w fun e w' => (∃ r : Bool, e = .returned (.bool r) ∧ (r = true ↔ M.rising (es.map (·.s)))) ∧ Below w.heap.size w w' := by
  rw [M.rising_iff]
  go_enter Tryz.func25, Tryz.ntmps25
  go_wp2_with fail
  go_loopw [3] (fun i wr => ∃ k : Nat, 1 ≤ k ∧ k ≤ es.length + 1 ∧ i = .int .i64 k ∧ Below w.heap.size w wr ∧ Hid (∀ j (hj : j < es.length) (h0 : 0 < j), j < k → (es[j - 1]'(by omega)).s.id < es[j].s.id)) (fun i _ => es.length + 1 - (intOf i).toNat)
  case atStart => exact ⟨1, by omega, by omega, rfl, Below.refl _ _, Lib.hid (fun j _ h0 h => absurd h (by omega))⟩
  case round =>
    obtain ⟨k, hk1, hk, rfl, hBr, HN⟩ := hrel
    by_cases hlt : k < es.length
    · obtain ⟨la, hla, hlb, a0, -⟩ := (hL.below hBr).st8 hlt
      obtain ⟨la2, hla2, hlb2, p0, -⟩ := (hL.below hBr).st8 (k := k - 1) (by omega)
      obtain rfl : la = la2 := Option.some.inj (hla.symm.trans hla2)
      clear hla2
      subst hla
      have l1 := Nat.lt_of_lt_of_le hlb hBr.size
      have l2 := Nat.lt_of_lt_of_le hlb2 hBr.size
      have HS : Hid ((es[k - 1]'(by omega)).s.id < es[k].s.id → ∀ j (hj : j < es.length) (h0 : 0 < j), j < k + 1 → (es[j - 1]'(by omega)).s.id < es[j].s.id) := Lib.hid (fun h j hj h0 h3 => by
        by_cases e : j = k
        · subst e; exact h
        · exact HN.out j hj h0 (by omega))
      have HF : Hid (es[k].s.id ≤ (es[k - 1]'(by omega)).s.id → ¬ ∀ j (hj : j < es.length) (h0 : 0 < j), (es[j - 1]'(by omega)).s.id < es[j].s.id) := Lib.hid (fun h h2 => by have := h2 k hlt (by omega); omega)
      generalize (es[k - 1]'(by omega)).s.id = pid at *
      generalize es[k].s.id = qid at *
      by_cases hc : qid ≤ pid
      · have q : decide (qid ≤ pid) = true := decide_eq_true hc
        have HF2 := Lib.hid (HF.out hc)
        go_wp2_with fail
        refine wp_region_kept wr.heap.size wr (by kernel_rfl) (by kernel_rfl) (Below.refl _ _) ?_
        repeat (go_big_quiet_step (fail))
        refine wpQuiet_nil ?_
        rintro w5 ⟨⟨_, hb5⟩, rfl⟩
        go_wp2_with fail
        go_ret
        exact ⟨⟨_, rfl, by constructor; (intro h; cases h); (intro h; exact absurd h HF2.out)⟩, after_ hBr hb5⟩
      · have q : decide (qid ≤ pid) = false := decide_eq_false hc
        have HS2 := Lib.hid (HS.out (by omega))
        go_wp2_with fail
        refine wp_region_kept wr.heap.size wr (by kernel_rfl) (by kernel_rfl) (Below.refl _ _) ?_
        repeat (go_big_quiet_step (fail))
        refine wpQuiet_nil ?_
        rintro w5 ⟨⟨_, hb5⟩, rfl⟩
        go_wp2_with fail
        go_roundw
        case rel => exact ⟨k + 1, by omega, by omega, by go_num, after_ hBr hb5, HS2⟩
        case measure => simp [intOf]; omega
    · go_wp2_with fail
      go_ret
      exact ⟨⟨_, rfl, by constructor; (intro _ j hj h0; exact HN.out j hj h0 (by omega)); (intro _; rfl)⟩, hBr⟩
end Go.Proofs.YtciolgmljpamlaaGreatDoor
end
